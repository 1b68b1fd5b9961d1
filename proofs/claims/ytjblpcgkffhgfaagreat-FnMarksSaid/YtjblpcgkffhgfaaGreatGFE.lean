/- The fewest faults, on the machine: the reference's table of sets. Conditions: a cache and a sequence that are right. -/
import Derived.Test.YtjblpcgkffhgfaaGreatGPP
import Derived.Test.YtjblpcgkffhgfaaGreatGFD
import Derived.Test.YtjblpcgkffhgfaaGreatAmS
import Derived.Test.YtjblpcgkffhgfaaGreatGDL
import Derived.Test.YtjblpcgkffhgfaaGreatPlay
set_option linter.all false
set_option linter.unusedSimpArgs false
set_option linter.unusedVariables false
namespace Go.Proofs.YtjblpcgkffhgfaaGreat
open Go Go.RowKit Am

/-- a row of the table, the first t sets of it -/
def tRow (k:Nat) (n:Nat) (xs:List Int) (i t:Nat):List Int:=(List.range t).map (tS k n xs (xs.length-i))
theorem tRow_len (k:Nat) (n:Nat) (xs:List Int) (i t:Nat):(tRow k n xs i t).length=t:=by simp [tRow]
theorem tRow_at {k:Nat} {n:Nat} {xs:List Int} {i t s:Nat} (h:s<t):(tRow k n xs i t).getD s 0=tS k n xs (xs.length-i) s:=by
  unfold tRow
  rw [List.getD_eq_getElem?_getD,List.getElem?_map,List.getElem?_range h]
  rfl
theorem tRow_next (k:Nat) (n:Nat) (xs:List Int) (i t:Nat):tRow k n xs i (t+1)=tRow k n xs i t++[tS k n xs (xs.length-i) t]:=by
  unfold tRow
  rw [List.range_succ,List.map_append]
  rfl
/-- the rows behind place i are there -/
def tTab (k:Nat) (n:Nat) (xs:List Int) (i:Nat):List (List Int):=(List.range (xs.length+1)).map fun j=>if i<j then tRow k n xs j (2 ^ n) else []
def tAll (k:Nat) (n:Nat) (xs:List Int):List (List Int):=(List.range (xs.length+1)).map fun j=>tRow k n xs j (2 ^ n)
theorem tTab_len (k:Nat) (n:Nat) (xs:List Int) (i:Nat):(tTab k n xs i).length=xs.length+1:=by simp [tTab]
theorem tAll_len (k:Nat) (n:Nat) (xs:List Int):(tAll k n xs).length=xs.length+1:=by simp [tAll]
theorem tTab_at {k:Nat} {n:Nat} {xs:List Int} {i j:Nat} (h:j≤xs.length) (hij:i<j):(tTab k n xs i).getD j []=tRow k n xs j (2 ^ n):=by
  unfold tTab
  rw [List.getD_eq_getElem?_getD,List.getElem?_map,List.getElem?_range (by omega)]
  exact if_pos hij
theorem tTab_no {k:Nat} {n:Nat} {xs:List Int} {i:Nat}:(tTab k n xs i).getD i []=[]:=by
  unfold tTab
  rw [List.getD_eq_getElem?_getD,List.getElem?_map]
  rcases Nat.lt_or_ge i (xs.length+1) with h | h
  · rw [List.getElem?_range h]
    exact if_neg (Nat.lt_irrefl _)
  · rw [List.getElem?_eq_none (by simp;omega)]
    rfl
theorem tAll_at {k:Nat} {n:Nat} {xs:List Int} {j:Nat} (h:j≤xs.length):(tAll k n xs).getD j []=tRow k n xs j (2 ^ n):=by
  unfold tAll
  rw [List.getD_eq_getElem?_getD,List.getElem?_map,List.getElem?_range (by omega)]
  rfl
theorem tTab_end (k:Nat) (n:Nat) (xs:List Int):tTab k n xs xs.length=List.replicate (xs.length+1) []:=by
  refine List.ext_getElem (by simp [tTab]) fun i h1 h2 => ?_
  simp only [tTab,List.length_map,List.length_range] at h1
  simp only [tTab,List.getElem_map,List.getElem_range,List.getElem_replicate]
  rw [if_neg (by omega)]
theorem tTab_set {k:Nat} {n:Nat} {xs:List Int} {i:Nat}:(tTab k n xs (i+1)).set (i+1) (tRow k n xs (i+1) (2 ^ n))=tTab k n xs i:=by
  refine List.ext_getElem (by simp [tTab]) fun j h1 h2 => ?_
  rw [List.getElem_set]
  simp only [tTab,List.getElem_map,List.getElem_range]
  by_cases e:i+1=j
  · rw [if_pos e,if_pos (by omega),e]
  · rw [if_neg e]
    by_cases h3:i+1<j
    · rw [if_pos h3,if_pos (by omega)]
    · rw [if_neg h3,if_neg (by omega)]
theorem tTab_all {k:Nat} {n:Nat} {xs:List Int}:(tTab k n xs 0).set 0 (tRow k n xs 0 (2 ^ n))=tAll k n xs:=by
  refine List.ext_getElem (by simp [tTab,tAll]) fun j h1 h2 => ?_
  rw [List.getElem_set]
  simp only [tTab,tAll,List.getElem_map,List.getElem_range]
  by_cases e:0=j
  · rw [if_pos e,e]
  · rw [if_neg e,if_pos (by omega)]
theorem tRow_zero (k:Nat) (n:Nat) (xs:List Int) (t:Nat):tRow k n xs xs.length t=List.replicate t 0:=by
  refine List.ext_getElem (by simp [tRow]) fun j h1 h2 => ?_
  simp only [tRow,List.getElem_map,List.getElem_range,List.getElem_replicate,Nat.sub_self]
  rfl
theorem pcN_le:∀ n s,pcN n s≤n
  | 0,_=>Nat.le_refl _
  | n+1,s=>by
    have:=pcN_le n (s / 2)
    show s % 2+pcN n (s / 2)≤_
    omega
theorem l5Size_d (n s:Nat) (hn:n≤8) (hs:s<2 ^ n):Does Tryz.prog 135 [.int s] (.imm (.int (sizS n s))):=by
  rw [sizS_pc]
  have hp:=pow_le8 hn
  have hpb:=pcN_le n s
  refine spec_imm Tryz.func135 rfl Tryz.ntmps135 cfOK (fun _ _=>by kernel_rfl) rfl (Nat.le_of_ble_eq_true rfl) ?_
  intro M0 w0
  rw [Tryz.results135]
  refine amGo ?_
  refine awp_rounds (α:=Nat×Nat×Nat) (fun a=>[(3,true,.int a.1),(0,true,.int a.2.1)]) [] (fun _=>[]) (fun a=>a.2.1<2 ^ a.2.2∧a.2.2≤n∧a.1+pcN a.2.2 a.2.1=pcN n s) (fun a=>a.2.1) (0,s,n) (by ((try simp only [xk]);(repeat (refine leK_cons ?_ ?_;first | (exact amE) | rotate_left));(try exact leK_nil rfl);(all_goals (try (simp only [xr,simprocAttr];try refine int_eq1 ?_))))) ⟨hs,Nat.le_refl _,Nat.zero_add _⟩ fun ⟨c,t,m⟩ hj => ?_
  obtain ⟨h1,h2,h3⟩:=hj
  dsimp only at h1 h2 h3 ⊢
  have hp2:=pow_le8 (x:=m) (by omega)
  simp only [xr,simprocAttr]
  refine amGo ?_
  refine awp_cond amQ (fun hc => ?_) (fun hc => ?_)
  · have hc:=of_decide_eq_true hc
    rcases m with _ | m
    · rw [Nat.pow_zero] at h1;omega
    · have e:pcN (m+1) t=t % 2+pcN m (t / 2):=rfl
      have e2:=Nat.pow_succ 2 m
      have ht2:((t:Int) % 2)=((t % 2:Nat):Int):=by omega
      have ht3:((t:Int) / 2)=((t / 2:Nat):Int):=by omega
      refine amGo ?_
      refine ⟨(c+t % 2,t / 2,m),?_⟩
      dsimp only
      refine ⟨by omega,by omega,by omega,by omega,.inl ?_⟩
      ((try simp only [xk]);(repeat (refine leK_cons ?_ ?_;first | (exact amE) | rotate_left));(refine leK_nil ?_;exact (by simp only [ht2,ht3]<;>rfl));(all_goals (try (simp only [xr,simprocAttr];try refine int_eq1 ?_))))
  · have hc:=of_decide_eq_false hc
    obtain rfl:t=0:=by omega
    rw [pcN_zero] at h3
    refine amGo ?_
    (simp only [xe,simprocAttr];refine ⟨_,rfl,rfl,Imp.eq ?_⟩)
    rw [← h3]
    rfl
theorem l5After_d (n s p:Nat) (o:Int) (hn:n≤8) (hs:s<2 ^ n) (hp:p<n) (ho:o = -1∨∃ e:Nat,e<n∧s.testBit e=true∧o=(e:Int)):Does Tryz.prog 86 [.int s,.int p,.int o] (.imm (.int (aftS s p o:Nat))):=by
  have hpn:=pow_le8 hn
  have hpp:=pow_le8 (x:=p) (by omega)
  have hpp2:=pow2_int p
  refine spec_imm Tryz.func86 rfl Tryz.ntmps86 cfOK (fun _ _=>by kernel_rfl) rfl (Nat.le_of_ble_eq_true rfl) ?_
  intro M0 w0
  rw [Tryz.results86]
  refine amGo ?_
  refine awp_cond amQ (fun hc => ?_) (fun hc => ?_)
  · obtain ⟨e,he1,he2,rfl⟩:=ho.resolve_left fun h=>by have:=of_decide_eq_true hc;omega
    have hge:2 ^ e≤s:=Nat.ge_two_pow_of_testBit he2
    have hpe:=pow_le8 (x:=e) (by omega)
    have hpe2:=pow2_int e
    have ea:aftS s p (e:Int)=(s-2 ^ e) ||| 2 ^ p:=by
      unfold aftS
      rw [if_pos (by omega),Int.toNat_natCast]
    have es:(s:Int)-2 ^ e=((s-2 ^ e:Nat):Int):=by omega
    refine amGo ?_
    (simp only [xe,simprocAttr];refine ⟨_,rfl,rfl,Imp.eq ?_⟩)
    rw [ea]
    show AV.int _=AV.int _
    congr 1
    have e1:((s:Int)-1*2 ^ e).toNat=s-2 ^ e:=by rw [Int.one_mul,hpe2];omega
    have e2:((1:Int)*2 ^ p).toNat=2 ^ p:=by rw [Int.one_mul,hpp2];rfl
    rw [e1,e2]
  · obtain rfl:o = -1:=by
      rcases ho with h | ⟨e,_,_,rfl⟩
      · exact h
      · have:=of_decide_eq_false hc;omega
    refine amGo ?_
    (simp only [xe,simprocAttr];refine ⟨_,rfl,rfl,Imp.eq ?_⟩)
    rw [aftS_no]
    show AV.int _=AV.int _
    congr 1
    have e2:((1:Int)*2 ^ p).toNat=2 ^ p:=by rw [Int.one_mul,hpp2];rfl
    rw [e2]
theorem chS_len (k n s p:Nat):(chS k n s p).length≤n+1:=by
  unfold chS
  have:=sizS_le n s
  unfold sizS at this
  split
  · simp
  · rw [List.length_append]
    split<;>simp<;>omega
theorem l5Choices_d (k n s p:Nat) (hk:k≤6) (hn:n≤8) (hs:s<2 ^ n) (hp:p<n):Does Tryz.prog 84 [.int k,.int n,.int s,.int p] (.imm (.sl (.ints (chS k n s p)))):=by
  have hpn:=pow_le8 hn
  have hsz:=sizS_le n s
  refine spec_imm Tryz.func84 rfl Tryz.ntmps84 cfOK (fun _ _=>by kernel_rfl) rfl (Nat.le_of_ble_eq_true rfl) ?_
  intro M0 w0
  rw [Tryz.results84]
  refine amGo ?_
  ((try refine Or.inl ?_);refine ⟨_,(l5In_d s p (by omega) (by omega)),.inl rfl,?_⟩;refine amC ?_)
  refine amGo ?_
  unfold chS
  refine awp_cond amQ (fun hc => ?_) (fun hc => ?_)
  · rw [hc,if_pos rfl]
    refine amGo ?_
    (simp only [xe,simprocAttr];refine ⟨_,rfl,rfl,Imp.eq ?_⟩)
    rfl
  · rw [hc,if_neg (by decide)]
    refine amGo ?_
    ((try refine Or.inl ?_);refine ⟨_,(l5Size_d n s hn hs),.inl rfl,?_⟩;refine amC ?_)
    refine amGo ?_
    refine awp_cond amQ (fun hd => ?_) (fun hd => ?_)
    · have hd:=of_decide_eq_true hd
      rw [if_pos (show sizS n s<k by omega)]
      refine amGo ?_
      refine awp_rounds (α:=Nat) (fun j=>[(10,true,.int j)]) [0,1,2,3,9] (fun j=>[.row 3 (.ints ([-1]++memS j s))]) (fun j=>j≤n) (fun j=>n-j) 0 (by ((try simp only [xk]);(repeat (refine leK_cons ?_ ?_;first | (exact amE) | rotate_left));(refine leK_nil ?_;exact (by rfl));(all_goals (try (simp only [xr,simprocAttr];try refine int_eq1 ?_))))) (Nat.zero_le _) fun j hj => ?_
      have hm:=memS_succ j s
      have hl:=sizS_le j s
      unfold sizS at hl
      generalize hml:memS j s=l at hm hl ⊢
      simp only [xr,simprocAttr]
      refine amGo ?_
      refine awp_cond amQ (fun he => ?_) (fun he => ?_)
      · have he:=of_decide_eq_true he
        have hjn:j<n:=by omega
        refine amGo ?_
        ((try refine Or.inl ?_);refine ⟨_,(l5In_d s j (by omega) (by omega)),.inl rfl,?_⟩;refine amC ?_)
        refine amGo ?_
        refine awp_cond amQ (fun hg => ?_) (fun hg => ?_)
        · rw [hg,if_pos rfl] at hm
          refine amGo ?_
          refine ⟨j+1,by omega,by omega,.inr ⟨1,Nat.le_of_ble_eq_true rfl,leT_of ?_ rfl rfl rfl⟩⟩
          ((try simp only [xk]);(repeat (refine leK_cons ?_ ?_;first | (exact amE) | rotate_left));(refine leK_nil ?_;exact (by rw [hm]<;>simp<;>rfl));(all_goals (try (simp only [xr,simprocAttr];try refine int_eq1 ?_))))
        · rw [hg,if_neg (by decide),List.append_nil] at hm
          refine amGo ?_
          refine ⟨j+1,by omega,by omega,.inr ⟨1,Nat.le_of_ble_eq_true rfl,leT_of ?_ rfl rfl rfl⟩⟩
          ((try simp only [xk]);(repeat (refine leK_cons ?_ ?_;first | (exact amE) | rotate_left));(refine leK_nil ?_;exact (by rw [hm]<;>rfl));(all_goals (try (simp only [xr,simprocAttr];try refine int_eq1 ?_))))
      · have he:=of_decide_eq_false he
        obtain rfl:j=n:=by omega
        refine amGoR ?_
        (refine awp_frz 0 rfl ?_;simp only [xz,simprocAttr])
        refine amGo ?_
        (simp only [xe,simprocAttr];refine ⟨_,rfl,rfl,Imp.eq ?_⟩)
        rw [hml]
    · have hd:=of_decide_eq_false hd
      rw [if_neg (show ¬ sizS n s<k by omega)]
      refine amGo ?_
      refine awp_rounds (α:=Nat) (fun j=>[(10,true,.int j)]) [0,1,2,3,9] (fun j=>[.row 3 (.ints ([]++memS j s))]) (fun j=>j≤n) (fun j=>n-j) 0 (by ((try simp only [xk]);(repeat (refine leK_cons ?_ ?_;first | (exact amE) | rotate_left));(refine leK_nil ?_;exact (by rfl));(all_goals (try (simp only [xr,simprocAttr];try refine int_eq1 ?_))))) (Nat.zero_le _) fun j hj => ?_
      have hm:=memS_succ j s
      have hl:=sizS_le j s
      unfold sizS at hl
      generalize hml:memS j s=l at hm hl ⊢
      simp only [xr,simprocAttr]
      refine amGo ?_
      refine awp_cond amQ (fun he => ?_) (fun he => ?_)
      · have he:=of_decide_eq_true he
        have hjn:j<n:=by omega
        refine amGo ?_
        ((try refine Or.inl ?_);refine ⟨_,(l5In_d s j (by omega) (by omega)),.inl rfl,?_⟩;refine amC ?_)
        refine amGo ?_
        refine awp_cond amQ (fun hg => ?_) (fun hg => ?_)
        · rw [hg,if_pos rfl] at hm
          refine amGo ?_
          refine ⟨j+1,by omega,by omega,.inr ⟨1,Nat.le_of_ble_eq_true rfl,leT_of ?_ rfl rfl rfl⟩⟩
          ((try simp only [xk]);(repeat (refine leK_cons ?_ ?_;first | (exact amE) | rotate_left));(refine leK_nil ?_;exact (by rw [hm]<;>simp<;>rfl));(all_goals (try (simp only [xr,simprocAttr];try refine int_eq1 ?_))))
        · rw [hg,if_neg (by decide),List.append_nil] at hm
          refine amGo ?_
          refine ⟨j+1,by omega,by omega,.inr ⟨1,Nat.le_of_ble_eq_true rfl,leT_of ?_ rfl rfl rfl⟩⟩
          ((try simp only [xk]);(repeat (refine leK_cons ?_ ?_;first | (exact amE) | rotate_left));(refine leK_nil ?_;exact (by rw [hm]<;>rfl));(all_goals (try (simp only [xr,simprocAttr];try refine int_eq1 ?_))))
      · have he:=of_decide_eq_false he
        obtain rfl:j=n:=by omega
        refine amGoR ?_
        (refine awp_frz 0 rfl ?_;simp only [xz,simprocAttr])
        refine amGo ?_
        (simp only [xe,simprocAttr];refine ⟨_,rfl,rfl,Imp.eq ?_⟩)
        rw [hml]
theorem tS_at {k n:Nat} {xs:List Int} {i s p:Nat} (hi:i<xs.length) (hp:xs.getD i 0=(p:Int)):tS k n xs (xs.length-i) s=if sizS n s≤k then bestS (fun o=>tS k n xs (xs.length-(i+1)) (aftS s p o)+if s.testBit p=true then 0 else 1) (chS k n s p) else -1:=by
  obtain ⟨d,hd⟩:∃ d,xs.length-i=d+1:=⟨xs.length-i-1,by omega⟩
  have e:xs.length-(d+1)=i:=by omega
  rw [hd,show xs.length-(i+1)=d by omega]
  show (if _ then bestS (fun o=>tS k n xs d (aftS s (xs.getD (xs.length-(d+1)) 0).toNat o)+_) _ else _)=_
  rw [e,hp,Int.toNat_natCast]
theorem chS_mem {k n s p:Nat} {o:Int} (h:o∈chS k n s p):o = -1∨∃ e:Nat,e<n∧s.testBit e=true∧o=(e:Int):=by
  unfold chS at h
  split at h
  · exact .inl (List.mem_singleton.1 h)
  · rcases List.mem_append.1 h with h | h
    · split at h
      · exact .inl (List.mem_singleton.1 h)
      · cases h
    · obtain ⟨e,h1,h2,h3⟩:=memS_mem.1 h
      exact .inr ⟨e,h1,h2,h3.symm⟩
theorem aftS_lt2 {s p n:Nat} {o:Int} (h:s<2 ^ n) (hp:p<n):aftS s p o<2 ^ n:=aftS_lt h hp
set_option maxRecDepth 4000 in
set_option maxHeartbeats 4000000 in
theorem l5Fewest_d (k n:Nat) (xs:List Int) (hk6:k≤6) (hn1:1≤n) (hn8:n≤8) (hn:xs.length≤60) (hx:PgOK n xs):Does Tryz.prog 83 [.int k,.int n,.sl (.ints xs)] (.imm (.sl (.ii (tAll k n xs)))):=by
  have hpn:=pow_le8 hn8
  have hpn2:=pow2_int n
  refine spec_imm Tryz.func83 rfl Tryz.ntmps83 cfOK (fun _ _=>by kernel_rfl) rfl (Nat.le_of_ble_eq_true rfl) ?_
  intro M0 w0
  rw [Tryz.results83]
  refine amGoI ?_
  rw [show ((xs.length:Int)+1).toNat=xs.length+1 by omega,Int.one_mul,hpn2,Int.toNat_natCast]
  (refine awp_cut 0 (xs.length) (.ii (List.replicate (xs.length+1) [])) (.ints (List.replicate (2 ^ n) 0)) rfl (by first | (show _=List.length _;simp;done) | (show _=List.length _;omega) | exact amX) rfl ?_;simp only [xr,simprocAttr])
  rw [← tTab_end k n xs,← tRow_zero k n xs (2 ^ n)]
  (refine awp_frz 2 rfl ?_;simp only [xz,simprocAttr])
  refine awp_rounds (α:=Nat) (fun i=>[(8,true,.int ((i:Int)-1))]) [0,1,2,7] (fun i=>[.cut 24 3 (.ii (tTab k n xs i)) i (.b (.sl (.ints (tRow k n xs i (2 ^ n))))),.gone,.gone]) (fun i=>i≤xs.length) (fun i=>i) xs.length (by ((try simp only [xk]);(repeat (refine leK_cons ?_ ?_;first | (exact amE) | rotate_left));(refine leK_nil ?_;exact (by rfl));(all_goals (try (simp only [xr,simprocAttr];try refine int_eq1 ?_))))) (Nat.le_refl _) fun i hi => ?_
  have hgl:=tTab_len k n xs i
  simp only [xr,simprocAttr]
  rcases i with _ | i
  · refine amGo ?_
    refine awp_cond amQ (fun hc => ?_) (fun hc => ?_)
    · cases hc
    (refine awp_cutE 0 rfl amT rfl ?_;simp only [xr,simprocAttr])
    rw [tTab_all]
    refine amGoR ?_
    (refine awp_frz 0 rfl ?_;simp only [xz,simprocAttr])
    refine amGo ?_
    (simp only [xe,simprocAttr];refine ⟨_,rfl,rfl,Imp.eq ?_⟩)
    rfl
  · rw [show (((i+1:Nat):Int)-1)=(i:Int) by omega]
    have hi':i<xs.length:=by omega
    refine amGo ?_
    refine awp_cond amQ (fun hc => ?_) (fun hc => ?_)
    · (refine awp_cutN 0 (i) rfl amT rfl ?_;simp only [xr,simprocAttr])
      rw [tTab_set,tTab_no]
      have hpl:=hx.low i hi'
      have hph:=hx.high i hi'
      obtain ⟨p,hp⟩:∃ p:Nat,xs.getD i 0=(p:Int):=⟨(xs.getD i 0).toNat,by omega⟩
      have hgl2:=tTab_len k n xs i
      refine amGo ?_
      refine awp_rounds (α:=Nat) (fun s=>[(9,true,.int s)]) [0,1,2,7,8] (fun s=>[.cut 24 3 (.ii (tTab k n xs i)) i (.own 3),.gone,.gone,.row 3 (.ints (tRow k n xs i s))]) (fun s=>s≤2 ^ n) (fun s=>2 ^ n-s) 0 (by ((try simp only [xk]);(repeat (refine leK_cons ?_ ?_;first | (exact amE) | rotate_left));(refine leK_nil ?_;exact (by rfl));(all_goals (try (simp only [xr,simprocAttr];try refine int_eq1 ?_))))) (Nat.zero_le _) fun s hs => ?_
      have hrl:=tRow_len k n xs i s
      simp only [xr,simprocAttr]
      refine amGo ?_
      refine awp_cond amQ (fun hd => ?_) (fun hd => ?_)
      · have hd:=of_decide_eq_true hd
        have hs':s<2 ^ n:=by omega
        have hT:(tTab k n xs i).getD (i+1) []=tRow k n xs (i+1) (2 ^ n):=tTab_at (by omega) (by omega)
        have hRl:=tRow_len k n xs (i+1) (2 ^ n)
        have hE:((i:Int)+1).toNat=i+1:=by omega
        have hB:Nat.beq (i+1) i=false:=by rw [Bool.eq_false_iff];exact fun h=>by have:=Nat.eq_of_beq_eq_true h;omega
        have hat:=tS_at (k:=k) (n:=n) (s:=s) hi' hp
        have hcl:=chS_len k n s p
        refine amGo ?_
        rw [hp]
        ((try refine Or.inl ?_);refine ⟨_,(l5Choices_d k n s p hk6 hn8 hs' (by omega)),amF,?_⟩;refine amC ?_)
        refine amGo ?_
        have hpn':p<n:=by omega
        have hmem:∀ o∈chS k n s p,o = -1∨∃ e:Nat,e<n∧s.testBit e=true∧o=(e:Int):=fun o h=>chS_mem h
        generalize chS k n s p=ch at hat hcl hmem ⊢
        obtain ⟨f,hf⟩:∃ f:Int→Int,f=fun o=>tS k n xs (xs.length-(i+1)) (aftS s p o)+if s.testBit p=true then 0 else 1:=⟨_,rfl⟩
        rw [← hf] at hat
        have hfb:∀ o,-1≤f o∧f o≤61:=fun o=>by
          have:=tS_bd k n xs (xs.length-(i+1)) (aftS s p o)
          rw [hf]
          dsimp only
          split<;>omega
        have hbb:∀ l,-1≤bestS f l∧bestS f l≤61:=fun l=>by
          rcases best_in (f:=f) l with h | ⟨o,_,h⟩
          · rw [h];omega
          · rw [h];exact hfb o
        refine awp_rounds (α:=Nat) (fun j=>[(12,true,.int j),(10,true,.int (bestS f (ch.take j)))]) [0,1,2,7,8,9,11] (fun _=>[.cut 24 3 (.ii (tTab k n xs i)) i (.own 3),.gone,.gone,.row 3 (.ints (tRow k n xs i s))]) (fun j=>j≤ch.length∧(¬ sizS n s≤k→j=0)) (fun j=>ch.length-j) 0 (by ((try simp only [xk]);(repeat (refine leK_cons ?_ ?_;first | (exact amE) | rotate_left));(refine leK_nil ?_;exact (by rfl));(all_goals (try (simp only [xr,simprocAttr];try refine int_eq1 ?_))))) ⟨Nat.zero_le _,fun _=>rfl⟩ fun j hj => ?_
        obtain ⟨hj,hj0⟩:=hj
        have hb1:=hbb (ch.take j)
        simp only [xr,simprocAttr]
        refine amGo ?_
        ((try refine Or.inl ?_);refine ⟨_,(fun _=>l5Size_d n s hn8 hs'),.inl rfl,?_⟩;refine amC ?_)
        refine amGo ?_
        refine awp_cond amQ (fun ht => ?_) (fun ht => ?_)
        · have ht:j<ch.length∧sizS n s≤k:=by
            simp only [Bool.cond_eq_ite,decide_eq_true_eq] at ht
            split at ht
            · exact ⟨by omega,by have:=of_decide_eq_true ht;omega⟩
            · cases ht
          obtain ⟨hj',hsk⟩:=ht
          have hsn:bestS f (ch.take (j+1))=if bestS f (ch.take j)<0∨f (ch.getD j 0)<bestS f (ch.take j) then f (ch.getD j 0) else bestS f (ch.take j):=by
            rw [List.take_succ_eq_append_getElem hj',bestS_snoc,getD_inL hj']
          have hmo:=hmem (ch.getD j 0) (by rw [getD_inL hj'];exact List.getElem_mem _)
          have hwl:=aftS_lt2 (o:=ch.getD j 0) hs' hpn'
          have hR:(tRow k n xs (i+1) (2 ^ n)).getD (aftS s p (ch.getD j 0)) 0=tS k n xs (xs.length-(i+1)) (aftS s p (ch.getD j 0)):=tRow_at hwl
          have hfo:f (ch.getD j 0)=tS k n xs (xs.length-(i+1)) (aftS s p (ch.getD j 0))+if s.testBit p=true then 0 else 1:=by rw [hf]
          have htb:=tS_bd k n xs (xs.length-(i+1)) (aftS s p (ch.getD j 0))
          obtain ⟨o,ho⟩:∃ o,ch.getD j 0=o:=⟨_,rfl⟩
          rw [ho] at hsn hmo hwl hR hfo htb
          generalize bestS f (ch.take j)=b at hsn hb1 ⊢
          (refine amB ?_;refine awp_anyG 0 [] [] [] ?_;simp (maxSteps:=3000000) only [xg,hE,hB,hT,hp,ho,hR,hRl,xr,simprocAttr];refine amSG ?_)
          ((try refine Or.inl ?_);refine ⟨_,(l5After_d n s p o hn8 hs' hpn' hmo),amF,?_⟩;(try simp (maxSteps:=3000000) only [xg,hE,hB,hT,hp,ho,hR,hRl,xr,simprocAttr]);refine amSG ?_)
          generalize tS k n xs (xs.length-(i+1)) (aftS s p o)=v at hfo htb ⊢
          refine amGo ?_
          rw [hp]
          ((try refine Or.inl ?_);refine ⟨_,(l5In_d s p (by omega) (by omega)),.inl rfl,?_⟩;refine amC ?_)
          refine amGo ?_
          cases hbit:s.testBit p
          · simp only [hbit,Bool.false_eq_true,if_false] at hfo
            refine awp_cond amQ (fun he => ?_) (fun he => ?_)
            · refine amGo ?_
              refine awp_cond amQ (fun hg => ?_) (fun hg => ?_)
              · have hg:b<0∨f o<b:=by
                  simp only [Bool.cond_eq_ite,decide_eq_true_eq] at hg
                  split at hg
                  · exact .inl (by omega)
                  · have:=of_decide_eq_true hg;exact .inr (by omega)
                rw [if_pos hg,hfo] at hsn
                refine amGo ?_
                refine ⟨j+1,by omega,fun h=>absurd hsk h,by omega,.inl ?_⟩
                rw [hsn]
                ((try simp only [xk]);(repeat (refine leK_cons ?_ ?_;first | (exact amE) | rotate_left));(refine leK_nil ?_;exact (by rfl));(all_goals (try (simp only [xr,simprocAttr];try refine int_eq1 ?_))))
              · have hg:¬ (b<0∨f o<b):=fun h=>by
                  simp only [Bool.cond_eq_ite,decide_eq_true_eq] at hg
                  split at hg
                  · cases hg
                  · have:=of_decide_eq_false hg;omega
                rw [if_neg hg] at hsn
                refine amGo ?_
                refine ⟨j+1,by omega,fun h=>absurd hsk h,by omega,.inl ?_⟩
                rw [hsn]
                ((try simp only [xk]);(repeat (refine leK_cons ?_ ?_;first | (exact amE) | rotate_left));(refine leK_nil ?_;exact (by rfl));(all_goals (try (simp only [xr,simprocAttr];try refine int_eq1 ?_))))
            · cases he
          · simp only [hbit,if_true] at hfo
            refine awp_cond amQ (fun he => ?_) (fun he => ?_)
            · cases he
            · refine amGo ?_
              refine awp_cond amQ (fun hg => ?_) (fun hg => ?_)
              · have hg:b<0∨f o<b:=by
                  simp only [Bool.cond_eq_ite,decide_eq_true_eq] at hg
                  split at hg
                  · exact .inl (by omega)
                  · have:=of_decide_eq_true hg;exact .inr (by omega)
                rw [if_pos hg,hfo,Int.add_zero] at hsn
                refine amGo ?_
                refine ⟨j+1,by omega,fun h=>absurd hsk h,by omega,.inl ?_⟩
                rw [hsn]
                ((try simp only [xk]);(repeat (refine leK_cons ?_ ?_;first | (exact amE) | rotate_left));(refine leK_nil ?_;exact (by rfl));(all_goals (try (simp only [xr,simprocAttr];try refine int_eq1 ?_))))
              · have hg:¬ (b<0∨f o<b):=fun h=>by
                  simp only [Bool.cond_eq_ite,decide_eq_true_eq] at hg
                  split at hg
                  · cases hg
                  · have:=of_decide_eq_false hg;omega
                rw [if_neg hg] at hsn
                refine amGo ?_
                refine ⟨j+1,by omega,fun h=>absurd hsk h,by omega,.inl ?_⟩
                rw [hsn]
                ((try simp only [xk]);(repeat (refine leK_cons ?_ ?_;first | (exact amE) | rotate_left));(refine leK_nil ?_;exact (by rfl));(all_goals (try (simp only [xr,simprocAttr];try refine int_eq1 ?_))))
        · have hv:bestS f (ch.take j)=tS k n xs (xs.length-i) s:=by
            rw [hat]
            by_cases hsk:sizS n s≤k
            · rw [if_pos hsk]
              have:j=ch.length:=by
                simp only [Bool.cond_eq_ite,decide_eq_true_eq] at ht
                split at ht
                · have:=of_decide_eq_false ht;omega
                · omega
              rw [this,List.take_length]
            · rw [if_neg hsk,hj0 hsk]
              rfl
          rw [hv]
          refine amB ?_
          (refine amB ?_;refine awp_regG 1 [(8,[4,3]),(10,[0])] [4,3] [(8,[]),(10,[])] ?_;simp (maxSteps:=3000000) only [xg,hE,hB,hT,xr,simprocAttr];refine amSG ?_)
          refine amB ?_
          (refine awp_mv 3 4 rfl rfl (by decide) rfl rfl ?_;simp only [xm,simprocAttr])
          refine amGo ?_
          refine ⟨s+1,by omega,by omega,.inr ⟨4,Nat.le_of_ble_eq_true rfl,leT_of ?_ rfl rfl rfl⟩⟩
          ((try simp only [xk]);(repeat (refine leK_cons ?_ ?_;first | (exact amE) | rotate_left));(refine leK_nil ?_;exact (by rw [tRow_next];rfl));(all_goals (try (simp only [xr,simprocAttr];try refine int_eq1 ?_))))
      · have hd:=of_decide_eq_false hd
        obtain rfl:s=2 ^ n:=by omega
        refine amB ?_
        (refine awp_frz 3 rfl ?_;simp only [xz,simprocAttr])
        refine amGo ?_
        refine ⟨i,by omega,by omega,.inr ⟨3,Nat.le_of_ble_eq_true rfl,leT_of ?_ rfl rfl rfl⟩⟩
        ((try simp only [xk]);(repeat (refine leK_cons ?_ ?_;first | (exact amE) | rotate_left));(refine leK_nil ?_;exact (by rfl));(all_goals (try (simp only [xr,simprocAttr];try refine int_eq1 ?_))))
    · have hc:=of_decide_eq_false hc
      omega
end Go.Proofs.YtjblpcgkffhgfaaGreat
/- The fewest faults, on the machine: the program's (a plan that leaves out the page of the farthest next request). Conditions: a cache and a sequence that are right. -/
set_option linter.all false
set_option linter.unusedSimpArgs false
set_option linter.unusedVariables false
namespace Go.Proofs.YtjblpcgkffhgfaaGreat
open Go Go.RowKit Am

theorem farthest_d (i:Nat) (xs c:List Int) (hi:i<xs.length) (hn:xs.length≤60) (hc:c.length≤60):Does Tryz.prog 133 [.int i,.sl (.ints xs),.sl (.ints c)] (.imm (.int (farF (xs.drop (i+1)) c (-1) (-1)))):=by
  have hdl:(xs.drop (i+1)).length≤60:=by rw [List.length_drop];omega
  obtain ⟨G,hG⟩:∃ G,farF (xs.drop (i+1)) c (-1) (-1)=G:=⟨_,rfl⟩
  rw [hG]
  refine spec_imm Tryz.func133 rfl Tryz.ntmps133 cfOK (fun _ _=>by kernel_rfl) rfl (Nat.le_of_ble_eq_true rfl) ?_
  intro M0 w0
  rw [Tryz.results133]
  refine amGo ?_
  refine awp_rounds (α:=Nat×Int×Int) (fun a=>[(14,true,.int a.1),(7,true,.int a.2.1),(8,true,.int a.2.2)]) [0,1,2,12,13] (fun _=>[]) (fun a=>a.1≤c.length ∧ -1≤a.2.2∧a.2.2≤60∧farF (xs.drop (i+1)) (c.drop a.1) a.2.1 a.2.2=G) (fun a=>c.length-a.1) (0,-1,-1) (by ((try simp only [xk]);(repeat (refine leK_cons ?_ ?_;first | (exact amE) | rotate_left));(try exact leK_nil rfl);(all_goals (try (simp only [xr,simprocAttr];try refine int_eq1 ?_))))) ⟨Nat.zero_le _,by decide,by decide,hG⟩ fun ⟨j,best,far⟩ hj => ?_
  obtain ⟨hj,hf1,hf2,hq⟩:=hj
  dsimp only at hj hf1 hf2 hq ⊢
  simp only [xr,simprocAttr]
  refine amGo ?_
  refine awp_cond amQ (fun hd => ?_) (fun hd => ?_)
  · have hd:=of_decide_eq_true hd
    have hj':j<c.length:=by omega
    rw [List.drop_eq_getElem_cons hj',← getD_inL (d:=0) hj'] at hq
    unfold farF at hq
    generalize hp:c.getD j 0=p at hq
    refine amGo ?_
    rw [show ((i:Int)+1).toNat=i+1 by omega,List.take_length,hp]
    generalize xs.drop (i+1)=r at hq hdl ⊢
    ((try refine Or.inl ?_);refine ⟨_,(index_d r p),.inl rfl,?_⟩;refine amC ?_)
    refine amGo ?_
    cases hw:r.contains p
    · rw [hw,if_neg (by decide)] at hq
      rw [idx_no hw]
      refine awp_cond amQ (fun he => ?_) (fun he => ?_)
      · refine amGo ?_
        (simp only [xe,simprocAttr];refine ⟨_,rfl,rfl,Imp.eq ?_⟩)
        rw [hq]
      · exact absurd he (by decide)
    · obtain ⟨hx1,hx2⟩:=idx_yes hw
      rw [hw,if_pos rfl] at hq
      rw [hx1]
      generalize r.idxOf p=m at hq hx1 hx2 ⊢
      refine awp_cond amQ (fun he => ?_) (fun he => ?_)
      · exact absurd (of_decide_eq_true he) (by omega)
      refine amGo ?_
      refine awp_cond amQ (fun hg => ?_) (fun hg => ?_)
      · have hg:=of_decide_eq_true hg
        rw [if_pos (by omega)] at hq
        refine amGo ?_
        refine ⟨(j+1,p,(m:Int)),?_⟩
        dsimp only
        refine ⟨by omega,by omega,by omega,hq,by omega,.inl ?_⟩
        ((try simp only [xk]);(repeat (refine leK_cons ?_ ?_;first | (exact amE) | rotate_left));(try exact leK_nil rfl);(all_goals (try (simp only [xr,simprocAttr];try refine int_eq1 ?_))))
      · have hg:=of_decide_eq_false hg
        rw [if_neg (by omega)] at hq
        refine amGo ?_
        refine ⟨(j+1,best,far),?_⟩
        dsimp only
        refine ⟨by omega,by omega,by omega,hq,by omega,.inl ?_⟩
        ((try simp only [xk]);(repeat (refine leK_cons ?_ ?_;first | (exact amE) | rotate_left));(try exact leK_nil rfl);(all_goals (try (simp only [xr,simprocAttr];try refine int_eq1 ?_))))
  · have hd:=of_decide_eq_false hd
    obtain rfl:j=c.length:=by omega
    rw [List.drop_length] at hq
    refine amGo ?_
    (simp only [xe,simprocAttr];refine ⟨_,rfl,rfl,Imp.eq ?_⟩)
    rw [← hq]
    rfl
theorem far1_d (i:Nat) (xs c:List Int) (hi:i<xs.length) (hn:xs.length≤60) (hc:c.length≤60):Does Tryz.prog 132 [.int i,.sl (.ints c),.lf (.ip [.sl (.ints xs)] 0)] (.imm (.int (farF (xs.drop (i+1)) c (-1) (-1)))):=by
  refine spec_imm Tryz.func132 rfl Tryz.ntmps132 cfOK (fun _ _=>by kernel_rfl) rfl (Nat.le_of_ble_eq_true rfl) ?_
  intro M0 w0
  rw [Tryz.results132]
  refine amGo ?_
  ((try refine Or.inl ?_);refine ⟨_,(farthest_d i xs c hi hn hc),.inl rfl,?_⟩;refine amC ?_)
  refine amGo ?_
  (simp only [xe,simprocAttr];refine ⟨_,rfl,rfl,Imp.eq ?_⟩)
  rfl
theorem del1_d (x l:Int):Does Tryz.prog 165 [.int x,.lf (.ip [.val (.int .i64 l)] 0)] (.imm (.bool (decide (x=l)))):=by
  refine spec_imm Tryz.func165 rfl Tryz.ntmps165 cfOK (fun _ _=>by kernel_rfl) rfl (Nat.le_of_ble_eq_true rfl) ?_
  intro M0 w0
  rw [Tryz.results165]
  refine amGo ?_
  (simp only [xe,simprocAttr];refine ⟨_,rfl,rfl,Imp.eq ?_⟩)
  rfl
theorem farC_rng {r c:List Int} (hc:c≠[]) (hx:∀ x∈c,0≤x∧x<9):0≤farC r c∧farC r c<9:=hx _ (far_ok r c hc).1
theorem nwS_mem {k:Nat} {xs:List Int}:∀ i,i≤xs.length→∀ x∈nwS k xs i,x∈xs
  | 0,_,x,h=>by simp [nwS] at h
  | i+1,hi,x,h=>by
    have ih:=nwS_mem (k:=k) (xs:=xs) i (by omega)
    unfold nwS at h
    have hx:xs.getD i 0∈xs:=by
      rw [getD_inL (show i<xs.length by omega)]
      exact List.getElem_mem _
    split at h
    · exact ih x h
    · rcases List.mem_append.1 h with h | h
      · split at h
        · exact ih x (List.mem_filter.1 h).1
        · exact ih x h
      · rw [List.mem_singleton.1 h]
        exact hx
set_option maxHeartbeats 4000000 in
theorem planBy_h (k:Nat) (xs:List Int) (hk1:1≤k) (hk6:k≤6) (hn:xs.length≤60) (hx:∀ x∈xs,0≤x∧x<9):DoesH Tryz.prog 131 [.int k,.sl (.ints xs),.clo 132 [.ip [.sl (.ints xs)] 0]] [] [] (.lf (.own 0)) [.row 3 (.ints (fpS k xs xs.length))]:=by
  refine spec_hB Tryz.func131 rfl Tryz.ntmps131 cfOK (fun _ _=>by kernel_rfl) rfl rfl rfl ?_
  intro M0 w0 S φ0
  rw [Tryz.results131]
  refine amGo ?_
  refine awp_rounds (α:=Nat) (fun i=>[(16,true,.int i)]) [0,1,2,7,8,14,15] (fun i=>[.row 3 (.ints (nwS k xs i)),.row 3 (.ints (fpS k xs i))]) (fun i=>i≤xs.length) (fun i=>xs.length-i) 0 (by ((try simp only [xk]);(repeat (refine leK_cons ?_ ?_;first | (exact amE) | rotate_left));(refine leK_nil ?_;exact (by rfl));(all_goals (try (simp only [xr,simprocAttr];try refine int_eq1 ?_))))) (Nat.zero_le _) fun i hi => ?_
  have hfl:=fpS_len k xs i
  have hfs:=fpS_succ k xs i
  have hnl:=(far_run hk1 (fun x h=>(hx x h).1) i hi).1
  have hpos:∀ x∈nwS k xs i,0≤x∧x<9:=fun x h=>hx x (nwS_mem i hi x h)
  have hns:nwS k xs (i+1)=if (nwS k xs i).contains (xs.getD i 0)=true then nwS k xs i else (if (nwS k xs i).length=k then (nwS k xs i).filter (fun y => !decide (y=farC (xs.drop (i+1)) (nwS k xs i))) else nwS k xs i)++[xs.getD i 0]:=rfl
  unfold lvS at hfs
  generalize nwS k xs i=c at hns hfs hnl hpos ⊢
  generalize hps:fpS k xs i=ps at hfs hfl ⊢
  simp only [xr,simprocAttr]
  refine amGo ?_
  refine awp_cond amQ (fun hc => ?_) (fun hc => ?_)
  · have hi':i<xs.length:=by have:=of_decide_eq_true hc;omega
    refine amGo ?_
    ((try refine Or.inl ?_);refine ⟨_,(contains_d c (xs.getD i 0)),.inl rfl,?_⟩;refine amC ?_)
    refine amGo ?_
    refine awp_cond amQ (fun hq => ?_) (fun hq => ?_)
    · have hq:c.contains (xs.getD i 0)=false:=by simpa using hq
      simp only [hq,Bool.false_eq_true,if_false] at hns hfs
      refine amGo ?_
      refine awp_cond amQ (fun hf => ?_) (fun hf => ?_)
      · have hf:c.length=k:=by have:=of_decide_eq_true hf;omega
        rw [if_pos hf] at hns hfs
        have hrl:=rs_len c
        have hfc:=far1_d i xs (rs c) hi' hn (by omega)
        rw [show farF (xs.drop (i+1)) (rs c) (-1) (-1)=farC (xs.drop (i+1)) c from rfl] at hfc
        have hfi:=farC_rng (r:=xs.drop (i+1)) (c:=c) (by intro e;rw [e] at hf;simp at hf;omega) hpos
        generalize farC (xs.drop (i+1)) c=L at hfc hns hfs hfi
        have hdl2:(c.filter fun y => !decide (y=L)).length≤60:=by
          have:=List.length_filter_le (fun y => !decide (y=L)) c
          omega
        refine amGo ?_
        (refine .inr (.inl (callW_b (rising_h c (by omega)) rfl rfl rfl rfl rfl rfl rfl ?_));refine amC ?_)
        refine amGo ?_
        ((try refine Or.inl ?_);refine ⟨_,(hfc),.inl rfl,?_⟩;refine amC ?_)
        refine amB ?_
        (refine awp_frzB 2 rfl rfl ?_;simp only [xzb,simprocAttr])
        simp only [List.reverse_singleton]
        refine amGo ?_
        (refine .inr (.inl (callW_a [0] (deleteFunc_h c _ [.ip [.val (.int .i64 L)] 0] (fun y=>decide (y=L)) (by omega) rfl (fun j hj=>del1_d _ L) (fun _ _=>by kernel_rfl)) rfl rfl rfl rfl ⟨rfl,trivial⟩ rfl rfl rfl rfl ?_));refine amC ?_)
        refine amGo ?_
        refine ⟨i+1,by omega,by omega,.inr ⟨2,Nat.le_of_ble_eq_true rfl,leT_of ?_ rfl rfl rfl⟩⟩
        ((try simp only [xk]);(repeat (refine leK_cons ?_ ?_;first | (exact amE) | rotate_left));(refine leK_nil ?_;exact (by rw [hns,hfs]<;>rfl));(all_goals (try (simp only [xr,simprocAttr];try refine int_eq1 ?_))))
      · have hf:¬ c.length=k:=by have:=of_decide_eq_false hf;omega
        rw [if_neg hf] at hns hfs
        refine amGo ?_
        refine ⟨i+1,by omega,by omega,.inr ⟨2,Nat.le_of_ble_eq_true rfl,leT_of ?_ rfl rfl rfl⟩⟩
        ((try simp only [xk]);(repeat (refine leK_cons ?_ ?_;first | (exact amE) | rotate_left));(refine leK_nil ?_;exact (by rw [hns,hfs]<;>rfl));(all_goals (try (simp only [xr,simprocAttr];try refine int_eq1 ?_))))
    · have hq:c.contains (xs.getD i 0)=true:=by simpa using hq
      simp only [hq,if_true] at hns hfs
      refine amGo ?_
      refine ⟨i+1,by omega,by omega,.inr ⟨2,Nat.le_of_ble_eq_true rfl,leT_of ?_ rfl rfl rfl⟩⟩
      ((try simp only [xk]);(repeat (refine leK_cons ?_ ?_;first | (exact amE) | rotate_left));(refine leK_nil ?_;exact (by rw [hns,hfs]<;>rfl));(all_goals (try (simp only [xr,simprocAttr];try refine int_eq1 ?_))))
  · have hi':i=xs.length:=by have:=of_decide_eq_false hc;omega
    refine amGo ?_
    rw [← hps,hi']
    (simp only [ends_normal,ends_ret];refine retH_1 [1] rfl ⟨rfl,trivial⟩ rfl rfl rfl rfl rfl ?_;try rfl)
theorem farthestPlan_d (k:Nat) (xs:List Int) (hk1:1≤k) (hk6:k≤6) (hn:xs.length≤60) (hx:∀ x∈xs,0≤x∧x<9):Does Tryz.prog 78 [.int k,.sl (.ints xs)] (.imm (.sl (.ints (fpS k xs xs.length)))):=by
  refine spec_imm Tryz.func78 rfl Tryz.ntmps78 cfOK (fun _ _=>by kernel_rfl) rfl (Nat.le_of_ble_eq_true rfl) ?_
  intro M0 w0
  rw [Tryz.results78]
  refine amGo ?_
  (refine .inr (.inl (callW_b (planBy_h k xs hk1 hk6 hn hx) rfl rfl rfl rfl rfl rfl rfl ?_));refine amC ?_)
  (refine awp_frz 1 rfl ?_;simp only [xz,simprocAttr])
  refine amGo ?_
  (simp only [xe,simprocAttr];refine ⟨_,rfl,rfl,Imp.eq ?_⟩)
  rfl
theorem fewestFaults_d (k:Nat) (xs:List Int) (hk1:1≤k) (hk6:k≤6) (hn:xs.length≤60) (hx:∀ x∈xs,0≤x∧x<9):Does Tryz.prog 76 [.int k,.sl (.ints xs)] (.imm (.int (fewN k xs))):=by
  obtain ⟨s,hs1,hs2⟩:=far_faults hk1 fun x h=>(hx x h).1
  have hd:=played_d k xs (fpS k xs xs.length) (by omega) hn (fpS_len _ _ _)
  rw [hs1] at hd
  refine spec_imm Tryz.func76 rfl Tryz.ntmps76 cfOK (fun _ _=>by kernel_rfl) rfl (Nat.le_of_ble_eq_true rfl) ?_
  intro M0 w0
  rw [Tryz.results76]
  refine amGo ?_
  ((try refine Or.inl ?_);refine ⟨_,(farthestPlan_d k xs hk1 hk6 hn hx),amF,?_⟩;refine amC ?_)
  ((try refine Or.inl ?_);refine ⟨_,hd,amF,?_⟩;refine amC ?_)
  refine amGo ?_
  (simp only [xe,simprocAttr];refine ⟨_,rfl,rfl,Imp.eq ?_⟩)
  rw [hs2]
/-- the fewest faults, and whether the arguments are right -/
def ffV (k n:Int) (xs:List Int):AV:=if pgB k n xs=true then .tup [inT (fewN k.toNat xs),boT true] else .tup [inT 0,boT false]
theorem impl_FewestFaults_d (k n:Int) (xs:List Int):Does Tryz.prog 33 [.int k,.int n,.sl (.ints xs)] (.imm (ffV k n xs)):=by
  refine spec_imm Tryz.func33 rfl Tryz.ntmps33 cfOK (fun _ _=>by kernel_rfl) rfl (Nat.le_of_ble_eq_true rfl) ?_
  intro M0 w0
  rw [Tryz.results33]
  refine amGo ?_
  ((try refine Or.inl ?_);refine ⟨_,(isPaging_d k n xs),.inl rfl,?_⟩;refine amC ?_)
  refine amGo ?_
  unfold ffV
  cases hb:pgB k n xs
  · refine awp_cond amQ (fun hd => ?_) (fun hd => ?_)
    · refine amGo ?_
      (simp only [xe,simprocAttr];refine ⟨[_,_],⟨rfl,rfl,trivial⟩,rfl,Imp.eq ?_⟩)
      rfl
    · cases hd
  · have hok:=pg_ok hb
    obtain ⟨m,rfl⟩:∃ m:Nat,k=(m:Int):=⟨k.toNat,by have:=hok.s1;omega⟩
    refine awp_cond amQ (fun hd => ?_) (fun hd => ?_)
    · cases hd
    refine amGo ?_
    ((try refine Or.inl ?_);refine ⟨_,(fewestFaults_d m xs (by have:=hok.s1;omega) (by have:=hok.s2;omega) hok.len fun x hx=>⟨(hok.all x hx).1,by have:=(hok.all x hx).2;have:=hok.n2;omega⟩),.inl rfl,?_⟩;refine amC ?_)
    refine amGo ?_
    (simp only [xe,simprocAttr];refine ⟨[_,_],⟨rfl,rfl,trivial⟩,rfl,Imp.eq ?_⟩)
    rfl
end Go.Proofs.YtjblpcgkffhgfaaGreat
/- The fewest faults, on the machine: the reference's and the program's are the same. Conditions: none. -/
set_option linter.all false
set_option linter.unusedSimpArgs false
set_option linter.unusedVariables false
namespace Go.Proofs.YtjblpcgkffhgfaaGreat
open Go Go.RowKit Am

theorem pg_at {n:Nat} {xs:List Int} (hx:PgOK n xs):∀ i,i<xs.length→∃ p:Nat,xs.getD i 0=(p:Int)∧p<n:=fun i hi=>by
  have h1:=hx.low i hi
  have h2:=hx.high i hi
  exact ⟨(xs.getD i 0).toNat,by omega,by omega⟩
theorem l5Opt_d (k n:Nat) (xs:List Int) (hk1:1≤k) (hk6:k≤6) (hn1:1≤n) (hn8:n≤8) (hn:xs.length≤60) (hx:PgOK n xs):Does Tryz.prog 114 [.int k,.int n,.sl (.ints xs)] (.imm (.int (fewN k xs))):=by
  have hp:=Nat.two_pow_pos n
  have h0:(tAll k n xs).getD 0 []=tRow k n xs 0 (2 ^ n):=tAll_at (Nat.zero_le _)
  have h1:(tRow k n xs 0 (2 ^ n)).getD 0 0=fewN k xs:=by rw [tRow_at hp,Nat.sub_zero,table_few hk1 (pg_at hx)]
  have hl1:=tAll_len k n xs
  have hl2:((tAll k n xs).getD 0 []).length=2 ^ n:=by rw [h0,tRow_len]
  refine spec_imm Tryz.func114 rfl Tryz.ntmps114 cfOK (fun _ _=>by kernel_rfl) rfl (Nat.le_of_ble_eq_true rfl) ?_
  intro M0 w0
  rw [Tryz.results114]
  refine amGo ?_
  ((try refine Or.inl ?_);refine ⟨_,(l5Fewest_d k n xs hk6 hn1 hn8 hn hx),amF,?_⟩;refine amC ?_)
  refine amGo ?_
  (simp only [xe,simprocAttr];refine ⟨_,rfl,rfl,Imp.eq ?_⟩)
  show AV.int (((tAll k n xs).getD 0 []).getD 0 0)=_
  rw [h0,h1]
theorem pgOK_of {k n:Int} {xs:List Int} (h:SzOK n k xs):PgOK n.toNat xs:=⟨fun i hi=>by
    have:=h.all (xs.getD i 0) (by rw [getD_inL hi];exact List.getElem_mem _)
    omega,fun i hi=>by
    have:=h.all (xs.getD i 0) (by rw [getD_inL hi];exact List.getElem_mem _)
    omega⟩
theorem spec_FewestFaults_d (k n:Int) (xs:List Int):Does Tryz.prog 60 [.int k,.int n,.sl (.ints xs)] (.imm (ffV k n xs)):=by
  refine spec_imm Tryz.func60 rfl Tryz.ntmps60 cfOK (fun _ _=>by kernel_rfl) rfl (Nat.le_of_ble_eq_true rfl) ?_
  intro M0 w0
  rw [Tryz.results60]
  refine amGo ?_
  ((try refine Or.inl ?_);refine ⟨_,(l5Takes_d k n xs),.inl rfl,?_⟩;refine amC ?_)
  refine amGo ?_
  unfold ffV
  cases hb:pgB k n xs
  · refine awp_cond amQ (fun hd => ?_) (fun hd => ?_)
    · refine amGo ?_
      (simp only [xe,simprocAttr];refine ⟨[_,_],⟨rfl,rfl,trivial⟩,rfl,Imp.eq ?_⟩)
      rfl
    · cases hd
  · have hok:=pg_ok hb
    have hpo:=pgOK_of hok
    have h1:=hok.s1
    have h2:=hok.s2
    have h3:=hok.n1
    have h4:=hok.n2
    have hln:=hok.len
    clear hok hb
    obtain ⟨a,rfl⟩:∃ m:Nat,k=(m:Int):=⟨k.toNat,by omega⟩
    obtain ⟨c,rfl⟩:∃ m:Nat,n=(m:Int):=⟨n.toNat,by omega⟩
    refine awp_cond amQ (fun hd => ?_) (fun hd => ?_)
    · cases hd
    refine amGo ?_
    ((try refine Or.inl ?_);refine ⟨_,(l5Opt_d a c xs (by omega) (by omega) (by omega) (by omega) hln hpo),.inl rfl,?_⟩;refine amC ?_)
    refine amGo ?_
    (simp only [xe,simprocAttr];refine ⟨[_,_],⟨rfl,rfl,trivial⟩,rfl,Imp.eq ?_⟩)
    rfl
end Go.Proofs.YtjblpcgkffhgfaaGreat
