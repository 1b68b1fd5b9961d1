/- The reference's uniform tables and lines, and what its requests are, on the machine. Conditions: small numbers. -/
import Derived.Test.YtlhdeofkhajigaaGreatGCU
import Derived.Test.YtlhdeofkhajigaaGreatME
import Derived.Test.YtlhdeofkhajigaaGreatPS
import Derived.Test.YtlhdeofkhajigaaGreatGAX
import Derived.Test.YtlhdeofkhajigaaGreatGWI
set_option linter.all false
set_option linter.unusedSimpArgs false
set_option linter.unusedVariables false
namespace Go.Proofs.YtlhdeofkhajigaaGreat
open Go Go.RowKit Am

def unifR (s n:Nat) (d:Int):List Int:=(List.range n).map fun x=>if s=x then 0 else d
def unif (n:Nat) (d:Int) (k:Nat):List (List Int):=(List.range k).map fun s=>unifR s n d
theorem l1Most_e (a b:Int):Does Tryz.prog 78 [.int a,.int b] (.imm (.int (max a b))):=by
  refine spec_imm Tryz.func78 rfl Tryz.ntmps78 cfOK (fun _ _=>by kernel_rfl) rfl (Nat.le_of_ble_eq_true rfl) ?_
  intro M0 w0
  rw [Tryz.results78]
  refine amGo ?_
  refine awp_cond amQ (fun hc => ?_) (fun hc => ?_)
  · have:=of_decide_eq_true hc
    refine amGo ?_
    (simp only [xe,simprocAttr];refine ⟨_,rfl,rfl,Imp.eq ?_⟩)
    rw [Int.max_eq_left (by omega)]
  · have:=of_decide_eq_false hc
    refine amGo ?_
    (simp only [xe,simprocAttr];refine ⟨_,rfl,rfl,Imp.eq ?_⟩)
    rw [Int.max_eq_right (by omega)]
theorem unifR_next (s n:Nat) (d:Int):unifR s (n+1) d=unifR s n d++[if s=n then 0 else d]:=by simp [unifR,List.range_succ]
theorem unif_next (n:Nat) (d:Int) (k:Nat):unif n d (k+1)=unif n d k++[unifR k n d]:=by simp [unif,List.range_succ]
theorem unifR_len (s n:Nat) (d:Int):(unifR s n d).length=n:=by simp [unifR]
theorem unif_len (n:Nat) (d:Int) (k:Nat):(unif n d k).length=k:=by simp [unif]
theorem l6Uniform_h (n:Nat) (d:Int) (hn:n≤8):DoesH Tryz.prog 82 [.int n,.int d] [] [] (.tv (.agg [.own 0])) [.tree [29,3] (.ii (unif n d n))]:=by
  refine spec_hB Tryz.func82 rfl Tryz.ntmps82 cfOK (fun _ _=>by kernel_rfl) rfl rfl rfl ?_
  intro M0 w0 S φ0
  rw [Tryz.results82]
  refine amG1 ?_
  refine amG1 ?_
  (refine awp_toT 1 3 [] rfl rfl rfl ?_;simp only [xu,simprocAttr])
  refine amGo ?_
  refine awp_rounds (α:=Nat) (fun k=>[(6,true,.int k)]) [0,1,4,5] (fun k=>[.box [.b (.val (.slice none 0 0))],.tree [29,3] (.ii (unif n d k)),.box [.own 1]]) (fun k=>k≤n) (fun k=>n-k) 0 (by ((try simp only [xk]);(repeat (refine leK_cons ?_ ?_;first | (exact amE) | rotate_left));(try exact leK_nil rfl);(all_goals (try (simp only [xr,simprocAttr];try refine int_eq1 ?_))))) (Nat.zero_le _) fun k hk => ?_
  have hu:=unif_len n d k
  simp only [xr,simprocAttr]
  refine amGo ?_
  refine awp_cond amQ (fun hc => ?_) (fun hc => ?_)
  · have hc:=of_decide_eq_true hc
    refine amGo ?_
    refine awp_rounds (α:=Nat) (fun j=>[(8,true,.int j)]) [0,1,4,5,6,7] (fun j=>[.box [.b (.val (.slice none 0 0))],.tree [29,3] (.ii (unif n d k)),.box [.own 1],.row 3 (.ints (unifR k j d))]) (fun j=>j≤n) (fun j=>n-j) 0 (by ((try simp only [xk]);(repeat (refine leK_cons ?_ ?_;first | (exact amE) | rotate_left));(try exact leK_nil rfl);(all_goals (try (simp only [xr,simprocAttr];try refine int_eq1 ?_))))) (Nat.zero_le _) fun j hj => ?_
    have hv:=unifR_len k j d
    have hnx:=unifR_next k j d
    simp only [xr,simprocAttr]
    refine amGo ?_
    refine awp_cond amQ (fun hc2 => ?_) (fun hc2 => ?_)
    · have hc2:=of_decide_eq_true hc2
      refine amGo ?_
      refine awp_cond amQ (fun hc3 => ?_) (fun hc3 => ?_)
      · have hc3:=of_decide_eq_true hc3
        refine amGo ?_
        refine ⟨j+1,by omega,by omega,.inr ⟨4,Nat.le_of_ble_eq_true rfl,leT_of ?_ rfl rfl rfl⟩⟩
        ((try simp only [xk]);(repeat (refine leK_cons ?_ ?_;first | (exact amE) | rotate_left));(refine leK_nil ?_;exact (by rw [hnx,if_pos (by omega)];rfl));(all_goals (try (simp only [xr,simprocAttr];try refine int_eq1 ?_))))
      · have hc3:=of_decide_eq_false hc3
        refine amGo ?_
        refine ⟨j+1,by omega,by omega,.inr ⟨4,Nat.le_of_ble_eq_true rfl,leT_of ?_ rfl rfl rfl⟩⟩
        ((try simp only [xk]);(repeat (refine leK_cons ?_ ?_;first | (exact amE) | rotate_left));(refine leK_nil ?_;exact (by rw [hnx,if_neg (by omega)];rfl));(all_goals (try (simp only [xr,simprocAttr];try refine int_eq1 ?_))))
    · have hc2:=of_decide_eq_false hc2
      obtain rfl:j=n:=by omega
      have hnk:=unif_next j d k
      refine amGo ?_
      refine ⟨k+1,by omega,by omega,.inr ⟨3,Nat.le_of_ble_eq_true rfl,leT_of ?_ rfl rfl rfl⟩⟩
      ((try simp only [xk]);(repeat (refine leK_cons ?_ ?_;first | (exact amE) | rotate_left));(refine leK_nil ?_;exact (by rw [hnk];rfl));(all_goals (try (simp only [xr,simprocAttr];try refine int_eq1 ?_))))
  · have hc:=of_decide_eq_false hc
    obtain rfl:k=n:=by omega
    refine amGo ?_
    (simp only [ends_normal,ends_ret];refine retH_1 [1] rfl ⟨rfl,trivial⟩ rfl rfl rfl rfl ⟨amK,rfl⟩ ?_;try rfl)
/-- n rows of n numbers -/
def Shp (n:Nat) (t:List (List Int)):Prop:=t.length=n∧∀ r∈t,r.length=n
theorem shp_unif (n:Nat) (d:Int):Shp n (unif n d n):=⟨unif_len n d n,fun r hr=>by obtain ⟨s,_,rfl⟩:=List.mem_map.1 hr;exact unifR_len s n d⟩
theorem shp_at {n:Nat} {t:List (List Int)} (h:Shp n t) {i:Nat} (hi:i<n):(t.getD i []).length=n:=by
  have hl:i<t.length:=by rw [h.1];exact hi
  rw [List.getD_eq_getElem?_getD,List.getElem?_eq_getElem hl]
  exact h.2 _ (List.getElem_mem hl)
theorem shp_set {n:Nat} {t:List (List Int)} (h:Shp n t) {i:Nat} {r:List Int} (hr:r.length=n):Shp n (t.set i r) :=
  ⟨by simp [h.1],fun q hq=>by rcases List.mem_or_eq_of_mem_set hq with h1 | h1;exact h.2 q h1;rw [h1];exact hr⟩
def lnK (xs:List Int) (i:Nat) (t:List (List Int)):Nat→List (List Int)
  | 0=>t
  | k+1=>(lnK xs i t k).set i (((lnK xs i t k).getD i []).set k (max (xs.getD i 0-xs.getD k 0) (xs.getD k 0-xs.getD i 0)))
def lnI (xs:List Int):Nat→List (List Int)
  | 0=>unif xs.length 0 xs.length
  | i+1=>lnK xs i (lnI xs i) xs.length
theorem lnK_shp {xs:List Int} {n i:Nat} {t:List (List Int)} (ht:Shp n t) (hi:i<n):∀ k,Shp n (lnK xs i t k)
  | 0=>ht
  | k+1=>shp_set (lnK_shp ht hi k) (by rw [List.length_set];exact shp_at (lnK_shp ht hi k) hi)
theorem lnI_shp (xs:List Int):∀ i,i≤xs.length→Shp xs.length (lnI xs i)
  | 0,_=>shp_unif _ _
  | i+1,h=>lnK_shp (lnI_shp xs i (by omega)) (by omega) _
set_option maxHeartbeats 2000000 in
theorem l6Line_h (xs:List Int) (hn:xs.length≤8) (hx:∀ x∈xs,-1000≤x∧x≤1000):DoesH Tryz.prog 84 [.sl (.ints xs)] [] [] (.tv (.agg [.own 0])) [.tree [29,3] (.ii (lnI xs xs.length))]:=by
  have hxd:∀ j,-1000≤xs.getD j 0∧xs.getD j 0≤1000:=fun j=>by
    rw [List.getD_eq_getElem?_getD]
    rcases Nat.lt_or_ge j xs.length with h | h
    · rw [List.getElem?_eq_getElem h];exact hx _ (List.getElem_mem h)
    · rw [List.getElem?_eq_none h];simp
  refine spec_hB Tryz.func84 rfl Tryz.ntmps84 cfOK (fun _ _=>by kernel_rfl) rfl rfl rfl ?_
  intro M0 w0 S φ0
  rw [Tryz.results84]
  refine amGo ?_
  (refine .inr (.inl (callW_a [] (l6Uniform_h xs.length 0 hn) rfl rfl rfl rfl trivial rfl rfl rfl rfl ?_));refine amC ?_)
  refine amGo ?_
  refine awp_rounds (α:=Nat) (fun i=>[(4,true,.int i)]) [0,2,3] (fun i=>[.box [.b (.val (.slice none 0 0))],.tree [29,3] (.ii (lnI xs i)),.box [.own 1]]) (fun i=>i≤xs.length) (fun i=>xs.length-i) 0 (by ((try simp only [xk]);(repeat (refine leK_cons ?_ ?_;first | (exact amE) | rotate_left));(try exact leK_nil rfl);(all_goals (try (simp only [xr,simprocAttr];try refine int_eq1 ?_))))) (Nat.zero_le _) fun i hi => ?_
  have hs:=lnI_shp xs i hi
  simp only [xr,simprocAttr]
  refine amGo ?_
  refine awp_cond amQ (fun hc => ?_) (fun hc => ?_)
  · have hc:=of_decide_eq_true hc
    have hi':i<xs.length:=by omega
    refine amGo ?_
    refine awp_rounds (α:=Nat) (fun k=>[(5,true,.int k)]) [0,2,3,4] (fun k=>[.box [.b (.val (.slice none 0 0))],.tree [29,3] (.ii (lnK xs i (lnI xs i) k)),.box [.own 1]]) (fun k=>k≤xs.length) (fun k=>xs.length-k) 0 (by ((try simp only [xk]);(repeat (refine leK_cons ?_ ?_;first | (exact amE) | rotate_left));(try exact leK_nil rfl);(all_goals (try (simp only [xr,simprocAttr];try refine int_eq1 ?_))))) (Nat.zero_le _) fun k hk => ?_
    have hs2:=lnK_shp (xs:=xs) hs hi' k
    have hl1:=hs2.1
    have hl2:=shp_at hs2 hi'
    have b1:=hxd i
    have b2:=hxd k
    simp only [xr,simprocAttr]
    refine amGo ?_
    refine awp_cond amQ (fun hc2 => ?_) (fun hc2 => ?_)
    · have hc2:=of_decide_eq_true hc2
      refine amGo ?_
      (refine awp_foc 1 (i) rfl amT ?_;simp only [xr,simprocAttr])
      (refine amB ?_;refine awp_anyG 0 [(26,[3])] [3] [(25,[]),(26,[])] ?_;refine amNG ?_)
      ((try refine Or.inl ?_);refine ⟨_,(l1Most_e _ _),amF,?_⟩;refine amTG ?_)
      (refine awp_unf 1 rfl (by decide) rfl rfl amT rfl ?_;simp only [xu,simprocAttr])
      refine amGo ?_
      refine ⟨k+1,by omega,by omega,.inr ⟨3,Nat.le_of_ble_eq_true rfl,leT_of ?_ rfl rfl rfl⟩⟩
      ((try simp only [xk]);(repeat (refine leK_cons ?_ ?_;first | (exact amE) | rotate_left));(refine leK_nil ?_;exact (rfl));(all_goals (try (simp only [xr,simprocAttr];try refine int_eq1 ?_))))
    · have hc2:=of_decide_eq_false hc2
      obtain rfl:k=xs.length:=by omega
      refine amGo ?_
      refine ⟨i+1,by omega,by omega,.inr ⟨3,Nat.le_of_ble_eq_true rfl,leT_of ?_ rfl rfl rfl⟩⟩
      ((try simp only [xk]);(repeat (refine leK_cons ?_ ?_;first | (exact amE) | rotate_left));(refine leK_nil ?_;exact (rfl));(all_goals (try (simp only [xr,simprocAttr];try refine int_eq1 ?_))))
  · have hc:=of_decide_eq_false hc
    obtain rfl:i=xs.length:=by omega
    refine amGo ?_
    (simp only [ends_normal,ends_ret];refine retH_1 [1] rfl ⟨rfl,trivial⟩ rfl rfl rfl rfl ⟨amK,rfl⟩ ?_;try rfl)
theorem l8Request_e (n:Nat) (xs:List Int) (hn:n≤9223372036854775807):Does Tryz.prog 86 [.int n,.sl (.ints xs)] (.imm (.bool (reqB n xs))):=does_val (fun _ _=>by kernel_rfl) fun M w us hm ha=>by
  obtain ⟨u,us',rfl,h1,h2⟩:=args_inv ha
  obtain ⟨u',us'',rfl,h3,h4⟩:=args_inv h2
  obtain rfl:=args_inv0 h4
  obtain rfl:u = .int .i64 n:=h1
  exact (l8Request_any w u' n xs hn (sl_of_si hm h3)).mono fun e w' ⟨h5,h6⟩=>⟨h5,h6 ▸ Below.refl _ _⟩
end Go.Proofs.YtlhdeofkhajigaaGreat
/- The reference's drawn problems, on the machine. Conditions: the place is small. -/
set_option linter.all false
set_option linter.unusedSimpArgs false
set_option linter.unusedVariables false
namespace Go.Proofs.YtlhdeofkhajigaaGreat
open Go Go.RowKit Am

/-- k numbers of xs -/
def amLC (xs:List Int):Nat→Cu→Cu
  | 0,c=>c
  | k+1,c=>aqC xs (amLC xs k c)
def amL (xs:List Int):Nat→Cu→List Int
  | 0,_=>[]
  | k+1,c=>amL xs k c++[amV xs (amLC xs k c)]
theorem amL_len (xs:List Int) (c:Cu):∀ k,(amL xs k c).length=k
  | 0=>rfl
  | k+1=>by simp [amL,amL_len xs c k]
theorem amLC_ok {xs:List Int} {m:Int} {c:Cu} (h:CuOK m c):∀ k:Nat,CuOK (m+2*k) (amLC xs k c)
  | 0=>h.mono (by omega)
  | k+1=>(amC_ok (amLC_ok h k)).mono (by omega)
theorem amL_mem {xs:List Int} {m:Int} {c:Cu} (h:CuOK m c) (hx:0<xs.length):∀ (k:Nat) (v:Int),v∈amL xs k c→v∈xs
  | 0,v,hv=>by simp [amL] at hv
  | k+1,v,hv=>by
    simp only [amL,List.mem_append,List.mem_singleton] at hv
    rcases hv with hv | rfl
    · exact amL_mem h hx k v hv
    · exact amV_mem (amLC_ok h k) hx
abbrev csP:List Int:=[0,0,1,2,3,-1,5]
/-- a request's costs -/
def rwN (n:Nat) (c:Cu):Bool:=decide (leastM (amL csP n c) ((amL csP n c).length-1)<0)
def rwD (n:Nat) (c:Cu):Cu:=if rwN n c=true then pkC 3 (amLC csP n c) else amLC csP n c
def rwB (n:Nat) (c:Cu):Bool:=(rwN n c && decide (pkV 3 (amLC csP n c)=0)) || !reqB n (amL csP n c)
def rwV (n:Nat) (c:Cu):List Int:=if rwB n c=true then (amL csP n c).set (pkV n (rwD n c)).toNat 0 else amL csP n c
def rwC (n:Nat) (c:Cu):Cu:=if rwB n c=true then pkC n (rwD n c) else rwD n c
theorem rwV_len (n:Nat) (c:Cu):(rwV n c).length=n:=by
  unfold rwV
  split
  · rw [List.length_set,amL_len]
  · exact amL_len _ _ _
theorem rwD_ok {n:Nat} {m:Int} {c:Cu} (h:CuOK m c):CuOK (m+(2*n+2)) (rwD n c):=by
  unfold rwD
  split
  · exact (pkC_ok (amLC_ok h n)).mono (by omega)
  · exact (amLC_ok h n).mono (by omega)
theorem rwC_ok {n:Nat} {m:Int} {c:Cu} (h:CuOK m c):CuOK (m+(2*n+4)) (rwC n c):=by
  unfold rwC
  split
  · exact (pkC_ok (rwD_ok h)).mono (by omega)
  · exact (rwD_ok h).mono (by omega)
/-- k requests -/
def rsC (n:Nat):Nat→Cu→Cu
  | 0,c=>c
  | k+1,c=>rwC n (rsC n k c)
def rsV (n:Nat):Nat→Cu→List (List Int)
  | 0,_=>[]
  | k+1,c=>rsV n k c++[rwV n (rsC n k c)]
theorem rsV_len (n:Nat) (c:Cu):∀ k,(rsV n k c).length=k
  | 0=>rfl
  | k+1=>by simp [rsV,rsV_len n c k]
theorem rsV_row (n:Nat) (c:Cu):∀ k,∀ r∈rsV n k c,r.length=n
  | 0=>by simp [rsV]
  | k+1=>fun r hr=>by
    simp only [rsV,List.mem_append,List.mem_singleton] at hr
    rcases hr with hr | rfl
    · exact rsV_row n c k r hr
    · exact rwV_len _ _
theorem rsC_ok {n:Nat} {m:Int} {c:Cu} (h:CuOK m c):∀ k:Nat,CuOK (m+(2*n+4)*k) (rsC n k c)
  | 0=>h.mono (by omega)
  | k+1=>by
    have h1:=rwC_ok (n:=n) (rsC_ok (n:=n) h k)
    exact h1.mono (by rw [Int.natCast_add,Int.natCast_one,Int.mul_add,Int.mul_one];omega)
/-- the first j numbers turned to -1 -/
def stN (row:List Int):Nat→List Int
  | 0=>row
  | j+1=>(stN row j).set j (-1)
theorem stN_len (row:List Int):∀ j,(stN row j).length=row.length
  | 0=>rfl
  | j+1=>by simp [stN,stN_len row j]
/-- what may be spoilt at the end -/
def prF (tag:Int) (k n:Nat) (m s:List (List Int)) (c:Cu):List (List Int)×List (List Int)×Cu :=
  if tag=0 then (m,s.set k ((s.getD k []).set 0 (amV [-2,20,21] c)),aqC [-2,20,21] c)
  else if tag=1 then (m,s.set k (s.getD k []++[0]),c)
  else if tag=2 then (m,s.set k (stN (s.getD k []) n),c)
  else if tag=3 then (m.set 0 ((m.getD 0 []).set (n-1) (amV [0,99,-1] c)),s,aqC [0,99,-1] c)
  else if tag=4 then (m,s++s++s++s,c)
  else if tag=5 then (unif 5 1 5,s,c)
  else (m,s,c)
theorem prF_ok {tag:Int} {k n:Nat} {m s:List (List Int)} {c:Cu} {m0:Int} (h:CuOK m0 c) (hm:m.length≤4) (hs:s.length≤4) (hs1:1≤s.length):(prF tag k n m s c).1.length≤5∧(prF tag k n m s c).2.1.length≤16∧1≤(prF tag k n m s c).2.1.length∧CuOK (m0+2) (prF tag k n m s c).2.2:=by
  have h2:CuOK (m0+2) c:=h.mono (by omega)
  unfold prF
  repeat' split
  all_goals first
    | exact ⟨by simp;omega,by simp;omega,by simp;omega,amC_ok h⟩
    | exact ⟨by simp;omega,by simp;omega,by simp;omega,h2⟩
    | exact ⟨by rw [unif_len];omega,by simp;omega,by simp;omega,h2⟩
    | exact ⟨by dsimp only;omega,by simp;omega,by simp;omega,h2⟩
abbrev nsP:List Int:=[1,2,2,3,3,4]
abbrev ksP:List Int:=[1,2,2,3,4]
def ptsP (c:Cu):List Int:=[pkV 2 c,2+pkV 2 (pkC 2 c),5,6+pkV 3 (pkC 2 (pkC 2 c))]
/-- a metric's table -/
def mvP (n:Nat) (d:Int) (c:Cu):List (List Int):=if pkV 2 c=0 then lnI ((ptsP (pkC 2 c)).take n) ((ptsP (pkC 2 c)).take n).length else unif n d n
def mvC (c:Cu):Cu:=if pkV 2 c=0 then pkC 3 (pkC 2 (pkC 2 (pkC 2 c))) else pkC 2 c
theorem mvC_ok {m:Int} {c:Cu} (h:CuOK m c):CuOK (m+8) (mvC c):=by
  unfold mvC
  split
  · exact (pkC_ok (pkC_ok (pkC_ok (pkC_ok h)))).mono (by omega)
  · exact (pkC_ok h).mono (by omega)
theorem ptsP_rng {m:Int} {c:Cu} (h:CuOK m c):∀ x∈ptsP c,-1000≤x∧x≤1000:=by
  have h1:=pkV_rng 2 h
  have h2:=pkV_rng 2 (pkC_ok (n:=2) h)
  have h3:=pkV_rng 3 (pkC_ok (n:=2) (pkC_ok (n:=2) h))
  have e1:=h1.2 (by omega)
  have e2:=h2.2 (by omega)
  have e3:=h3.2 (by omega)
  intro x hx
  simp only [ptsP,List.mem_cons,List.not_mem_nil,or_false] at hx
  rcases hx with rfl | rfl | rfl | rfl<;>omega
theorem mvP_shp {n:Nat} {d:Int} {c:Cu} (hn:n≤4):Shp n (mvP n d c):=by
  unfold mvP
  split
  · have h:=lnI_shp ((ptsP (pkC 2 c)).take n) _ (Nat.le_refl _)
    have e:((ptsP (pkC 2 c)).take n).length=n:=by simp [ptsP];omega
    rw [e] at h
    rw [e]
    exact h
  · exact shp_unif n d
end Go.Proofs.YtlhdeofkhajigaaGreat
