/- The reference's drawn algorithms, states, weights and mixtures, on the machine. Conditions: the place is small; sizes are small. -/
import Derived.Test.YtlhdeofkhajigaaGreatGDR
import Derived.Test.YtlhdeofkhajigaaGreatGAX
set_option linter.all false
set_option linter.unusedSimpArgs false
set_option linter.unusedVariables false
namespace Go.Proofs.YtlhdeofkhajigaaGreat
open Go Go.RowKit Am

/-- the first state from t on in which a row can be served, if there is one -/
def stT (n:Nat) (row:List Int):Nat→Int→Int
  | 0,t=>t
  | f+1,t=>if (row.length:Int)≤t∨row.getD t.toNat 0<0 then stT n row f ((t+1) % n) else t
def alRC (n:Nat):Nat→Cu→Cu
  | 0,c=>c
  | j+1,c=>pkC n (alRC n j c)
def alR (n:Nat) (s:List (List Int)):Nat→Cu→List Int
  | 0,_=>[]
  | j+1,c=>alR n s j c++[stT n (s.getD j []) n (pkV n (alRC n j c))]
theorem alR_len (n:Nat) (s:List (List Int)) (c:Cu):∀ j,(alR n s j c).length=j
  | 0=>rfl
  | j+1=>by simp [alR,alR_len n s c j]
theorem alRC_ok {n:Nat} {m:Int} {c:Cu} (h:CuOK m c):∀ j:Nat,CuOK (m+2*j) (alRC n j c)
  | 0=>h.mono (by omega)
  | j+1=>(pkC_ok (alRC_ok h j)).mono (by omega)
def alOC (n:Nat) (s:List (List Int)):Nat→Cu→Cu
  | 0,c=>c
  | k+1,c=>alRC n s.length (alOC n s k c)
def alO (n:Nat) (s:List (List Int)):Nat→Cu→List (List Int)
  | 0,_=>[]
  | k+1,c=>alO n s k c++[alR n s s.length (alOC n s k c)]
theorem alO_len (n:Nat) (s:List (List Int)) (c:Cu):∀ k,(alO n s k c).length=k
  | 0=>rfl
  | k+1=>by simp [alO,alO_len n s c k]
theorem alO_row (n:Nat) (s:List (List Int)) (c:Cu):∀ k,∀ r∈alO n s k c,r.length=s.length
  | 0=>by simp [alO]
  | k+1=>fun r hr=>by
    simp only [alO,List.mem_append,List.mem_singleton] at hr
    rcases hr with hr | rfl
    · exact alO_row n s c k r hr
    · exact alR_len _ _ _ _
theorem alOC_ok {n:Nat} {s:List (List Int)} {m:Int} {c:Cu} (h:CuOK m c) (hs:s.length≤16):∀ k:Nat,CuOK (m+32*k) (alOC n s k c)
  | 0=>h.mono (by omega)
  | k+1=>(alRC_ok (alOC_ok h hs k) s.length).mono (by omega)
theorem state8_h {m s:List (List Int)} {c:Cu} (hc:CuOK 999999999000 c):∃ x c',(∀ m0,CuOK m0 c→CuOK (m0+4) c')∧DoesH Tryz.prog 39 [.lf (.ptr 0 0),.tv (.agg [.b (.sl (.ii m)),.b (.sl (.ii s))])] [true] [curO c] (.int x) [curO c']:=by
  by_cases h0:(m.length:Int)=0
  · refine ⟨amV [-1,m.length] c,aqC [-1,m.length] c,fun m0 h=>(amC_ok h).mono (by omega),?_⟩
    refine spec_hB Tryz.func39 rfl Tryz.ntmps39 cfOK (fun _ _=>by kernel_rfl) rfl rfl rfl ?_
    intro M0 w0 S φ0
    rw [Tryz.results39]
    refine amGo ?_
    rw [decide_eq_true h0]
    (refine .inr (.inr (callW_gf (.bool false) (by first | rfl | (simp only [xr,simprocAttr];done)) rfl ?_));refine amC ?_)
    refine amGo ?_
    refine awp_cond amQ (fun hb => ?_) (fun hb => ?_)
    · refine amGo ?_
      (refine .inr (.inl (callW_a [0] (among_h (xs:=[-1,m.length]) (hc.mono (by omega)) (by simp)) rfl rfl rfl rfl ⟨rfl,trivial⟩ rfl rfl rfl rfl ?_));refine amC ?_)
      refine amGo ?_
      (simp only [ends_normal,ends_ret];refine retH_1 [0] rfl ⟨rfl,trivial⟩ rfl rfl rfl rfl rfl ?_;try rfl)
    · simp at hb
  · by_cases h1:pkV 20 c=0
    · have hc1:=pkC_ok (n:=20) hc
      refine ⟨amV [-1,m.length] (pkC 20 c),aqC [-1,m.length] (pkC 20 c),fun m0 h=>(amC_ok (pkC_ok h)).mono (by omega),?_⟩
      refine spec_hB Tryz.func39 rfl Tryz.ntmps39 cfOK (fun _ _=>by kernel_rfl) rfl rfl rfl ?_
      intro M0 w0 S φ0
      rw [Tryz.results39]
      refine amGo ?_
      rw [decide_eq_false h0]
      (refine .inr (.inr (callW_gt [0] (one_h (n:=20) (hc.mono (by omega))) (by first | rfl | (simp only [xr,simprocAttr];done)) rfl rfl rfl ⟨rfl,trivial⟩ rfl rfl rfl rfl ?_));refine amC ?_)
      rw [decide_eq_true h1]
      refine amGo ?_
      refine awp_cond amQ (fun hb => ?_) (fun hb => ?_)
      · refine amGo ?_
        (refine .inr (.inl (callW_a [0] (among_h (xs:=[-1,m.length]) (hc1.mono (by omega)) (by simp)) rfl rfl rfl rfl ⟨rfl,trivial⟩ rfl rfl rfl rfl ?_));refine amC ?_)
        refine amGo ?_
        (simp only [ends_normal,ends_ret];refine retH_1 [0] rfl ⟨rfl,trivial⟩ rfl rfl rfl rfl rfl ?_;try rfl)
      · simp at hb
    · have hc1:=pkC_ok (n:=20) hc
      refine ⟨pkV m.length (pkC 20 c),pkC m.length (pkC 20 c),fun m0 h=>(pkC_ok (pkC_ok h)).mono (by omega),?_⟩
      refine spec_hB Tryz.func39 rfl Tryz.ntmps39 cfOK (fun _ _=>by kernel_rfl) rfl rfl rfl ?_
      intro M0 w0 S φ0
      rw [Tryz.results39]
      refine amGo ?_
      rw [decide_eq_false h0]
      (refine .inr (.inr (callW_gt [0] (one_h (n:=20) (hc.mono (by omega))) (by first | rfl | (simp only [xr,simprocAttr];done)) rfl rfl rfl ⟨rfl,trivial⟩ rfl rfl rfl rfl ?_));refine amC ?_)
      rw [decide_eq_false h1]
      refine amGo ?_
      refine awp_cond amQ (fun hb => ?_) (fun hb => ?_)
      · simp at hb
      · refine amGo ?_
        (refine .inr (.inl (callW_a [0] (pick_h (n:=m.length) (hc1.mono (by omega))) rfl rfl rfl rfl ⟨rfl,trivial⟩ rfl rfl rfl rfl ?_));refine amC ?_)
        refine amGo ?_
        (simp only [ends_normal,ends_ret];refine retH_1 [0] rfl ⟨rfl,trivial⟩ rfl rfl rfl rfl rfl ?_;try rfl)
end Go.Proofs.YtlhdeofkhajigaaGreat
/- The reference's drawn algorithms, on the machine. Conditions: the place is small; sizes are small. -/
set_option linter.all false
set_option linter.unusedSimpArgs false
set_option linter.unusedVariables false
namespace Go.Proofs.YtlhdeofkhajigaaGreat
open Go Go.RowKit Am

def alF (tag:Int) (n:Nat) (o:List (List Int)) (c:Cu):List (List Int)×Cu :=
  if tag=0 then (o.set 0 ((o.getD 0 []).set 0 (amV [-1,n,0] c)),aqC [-1,n,0] c)
  else if tag=1 then (o.set 0 (o.getD 0 []++[0]),c)
  else if tag=2 then ((o.take o.length).drop 1,c)
  else (o,c)
theorem alF_ok {tag:Int} {n:Nat} {o:List (List Int)} {c:Cu} {m0:Int} (h:CuOK m0 c):(alF tag n o c).1.length≤o.length∧CuOK (m0+2) (alF tag n o c).2:=by
  have h2:CuOK (m0+2) c:=h.mono (by omega)
  unfold alF
  repeat' split
  all_goals first
    | exact ⟨by simp,amC_ok h⟩
    | exact ⟨by simp,h2⟩
theorem alF_row {tag:Int} {n:Nat} {o:List (List Int)} {c:Cu} {B:Nat} (h:∀ r∈o,r.length≤B):∀ r∈(alF tag n o c).1,r.length≤B+1:=by
  have hg:(o.getD 0 []).length≤B:=by
    rw [List.getD_eq_getElem?_getD]
    cases hx:o[0]? with
    | none=>simp
    | some x=>exact h x (List.mem_of_getElem? hx)
  unfold alF
  repeat' split
  · intro r hr
    rcases List.mem_or_eq_of_mem_set hr with h1 | h1
    · have:=h r h1;omega
    · rw [h1,List.length_set];omega
  · intro r hr
    rcases List.mem_or_eq_of_mem_set hr with h1 | h1
    · have:=h r h1;omega
    · rw [h1,List.length_append];simpa using hg
  · intro r hr
    have:=h r (List.mem_of_mem_take (List.mem_of_mem_drop hr))
    omega
  · intro r hr
    have:=h r hr
    omega
def alG (m s:List (List Int)) (c:Cu):List (List Int)×Cu:=if 0<m.length∧0<s.length then alF (pkV 24 (alOC m.length s m.length c)) m.length (alO m.length s m.length c) (pkC 24 (alOC m.length s m.length c)) else (alO m.length s m.length c,alOC m.length s m.length c)
theorem stT_yes {n f:Nat} {row:List Int} {t:Int} (h:(row.length:Int)≤t∨row.getD t.toNat 0<0):stT n row (f+1) t=stT n row f ((t+1) % n):=if_pos h
theorem stT_no {n f:Nat} {row:List Int} {t:Int} (h:¬ ((row.length:Int)≤t∨row.getD t.toNat 0<0)):stT n row (f+1) t=t:=if_neg h
theorem set_back {O:List (List Int)} (h:0<O.length):O.set 0 (O.getD 0 [])=O:=by
  rw [show O.getD 0 []=O[0] by (rw [List.getD_eq_getElem?_getD,List.getElem?_eq_getElem h];rfl),List.set_getElem_self]
set_option maxHeartbeats 2000000 in
theorem algorithm_g {m s:List (List Int)} {c:Cu} (hm:m.length≤5) (hs:s.length≤16) (hc:CuOK 999999995000 c):DoesH Tryz.prog 38 [.lf (.ptr 0 0),.tv (.agg [.b (.sl (.ii m)),.b (.sl (.ii s))])] [true] [curO c] (.sl (.ii (alG m s c).1)) [curO (alG m s c).2]:=by
  refine spec_hB Tryz.func38 rfl Tryz.ntmps38 cfOK (fun _ _=>by kernel_rfl) rfl rfl rfl ?_
  intro M0 w0 S φ0
  rw [Tryz.results38]
  refine amG1 ?_
  refine amG1 ?_
  (refine awp_toT 2 3 [] rfl rfl rfl ?_;simp only [xu,simprocAttr])
  refine amGo ?_
  refine awp_rounds (α:=Nat) (fun k=>[(6,true,.int k)]) [0,3,5] (fun k=>[curO (alOC m.length s k c),.box [.b (.sl (.ii m)),.b (.sl (.ii s))],.tree [29,3] (.ii (alO m.length s k c))]) (fun k=>k≤m.length) (fun k=>m.length-k) 0 (by ((try simp only [xk]);(repeat (refine leK_cons ?_ ?_;first | (exact amE) | rotate_left));(try exact leK_nil rfl);(all_goals (try (simp only [xr,simprocAttr];try refine int_eq1 ?_))))) (Nat.zero_le _) fun k hk => ?_
  have hl1:=alO_len m.length s c k
  have hk0:=alOC_ok (n:=m.length) hc hs k
  generalize hr0:alOC m.length s k c=r at hk0
  have hrc:CuOK 999999995200 r:=hk0.mono (by omega)
  simp only [xr,simprocAttr]
  refine amGo ?_
  refine awp_cond amQ (fun h1 => ?_) (fun h1 => ?_)
  · have h1:=of_decide_eq_true h1
    refine amGo ?_
    refine awp_rounds (α:=Nat) (fun j=>[(8,true,.int j)]) [0,3,5,6,7] (fun j=>[curO (alRC m.length j r),.box [.b (.sl (.ii m)),.b (.sl (.ii s))],.tree [29,3] (.ii (alO m.length s k c)),.row 3 (.ints (alR m.length s j r))]) (fun j=>j≤s.length) (fun j=>s.length-j) 0 (by ((try simp only [xk]);(repeat (refine leK_cons ?_ ?_;first | (exact amE) | rotate_left));(try exact leK_nil rfl);(all_goals (try (simp only [xr,simprocAttr];try refine int_eq1 ?_))))) (Nat.zero_le _) fun j hj => ?_
    have hl2:=alR_len m.length s r j
    have hj0:=alRC_ok (n:=m.length) hrc j
    simp only [xr,simprocAttr]
    refine amGo ?_
    refine awp_cond amQ (fun h2 => ?_) (fun h2 => ?_)
    · have h2:=of_decide_eq_true h2
      obtain ⟨q1,q2⟩:=pkV_rng m.length hj0
      have q2:=q2 (by omega)
      refine amGo ?_
      (refine .inr (.inl (callW_a [0] (pick_h (n:=m.length) (hj0.mono (by omega))) rfl rfl rfl rfl ⟨rfl,trivial⟩ rfl rfl rfl rfl ?_));refine amC ?_)
      refine amGo ?_
      refine awp_rounds (α:=Nat×Int) (fun x=>[(10,true,.int x.1),(9,true,.int x.2)]) [0,3,5,6,7,8] (fun _=>[curO (alRC m.length (j+1) r),.box [.b (.sl (.ii m)),.b (.sl (.ii s))],.tree [29,3] (.ii (alO m.length s k c)),.row 3 (.ints (alR m.length s j r))]) (fun x=>x.1≤m.length∧0≤x.2∧x.2<m.length∧stT m.length (s.getD j []) (m.length-x.1) x.2=stT m.length (s.getD j []) m.length (pkV m.length (alRC m.length j r))) (fun x=>m.length-x.1) (0,pkV m.length (alRC m.length j r)) (by ((try simp only [xk]);(repeat (refine leK_cons ?_ ?_;first | (exact amE) | rotate_left));(try exact leK_nil rfl);(all_goals (try (simp only [xr,simprocAttr];try refine int_eq1 ?_))))) ⟨Nat.zero_le _,q1,q2,rfl⟩ fun x hx => ?_
      obtain ⟨i,t⟩:=x
      obtain ⟨hi,ht0,ht1,hst⟩:=hx
      dsimp only at hi ht0 ht1 hst ⊢
      simp only [xr,simprocAttr]
      refine amGo ?_
      have hq:(bif decide ((i:Int)<m.length) then bif decide (((s.getD j []).length:Int)≤t) then true else decide ((s.getD j []).getD t.toNat 0<0) else false)=decide (i<m.length∧(((s.getD j []).length:Int)≤t∨(s.getD j []).getD t.toNat 0<0)):=by
        by_cases z1:(i:Int)<m.length<;>by_cases z2:((s.getD j []).length:Int)≤t<;>by_cases z3:(s.getD j []).getD t.toNat 0<0<;>simp [z1,z2,z3]<;>omega
      refine awp_cond amQ (fun h3 => ?_) (fun h3 => ?_)
      · have h3:=of_decide_eq_true (hq.symm.trans h3)
        have e1:m.length-i=(m.length-(i+1))+1:=by omega
        rw [e1] at hst
        rw [stT_yes h3.2] at hst
        have e2:=Int.emod_nonneg (t+1) (show (m.length:Int)≠0 by omega)
        have e3:=Int.emod_lt_of_pos (t+1) (show (0:Int)<m.length by omega)
        refine amGo ?_
        refine ⟨(i+1,(t+1) % m.length),by omega,e2,e3,hst,by omega,.inl ?_⟩
        ((try simp only [xk]);(repeat (refine leK_cons ?_ ?_;first | (exact amE) | rotate_left));(try exact leK_nil rfl);(all_goals (try (simp only [xr,simprocAttr];try refine int_eq1 ?_))))
      · have h3:=of_decide_eq_false (hq.symm.trans h3)
        have ht:t=stT m.length (s.getD j []) m.length (pkV m.length (alRC m.length j r)):=by
          rw [← hst]
          rcases Nat.eq_zero_or_pos (m.length-i) with e | e
          · rw [e];rfl
          · obtain ⟨f,hf⟩:∃ f,m.length-i=f+1:=⟨m.length-i-1,by omega⟩
            rw [hf]
            rw [stT_no (fun h=>h3 ⟨by omega,h⟩)]
        refine amGo ?_
        refine ⟨j+1,by omega,by omega,.inr ⟨4,Nat.le_of_ble_eq_true rfl,leT_of ?_ rfl rfl rfl⟩⟩
        ((try simp only [xk]);(repeat (refine leK_cons ?_ ?_;first | (exact amE) | rotate_left));(refine leK_nil ?_;exact (by rw [ht];rfl));(all_goals (try (simp only [xr,simprocAttr];try refine int_eq1 ?_))))
    · have h2:=of_decide_eq_false h2
      obtain rfl:j=s.length:=by omega
      refine amGo ?_
      refine ⟨k+1,by omega,by omega,.inr ⟨3,Nat.le_of_ble_eq_true rfl,leT_of ?_ rfl rfl rfl⟩⟩
      ((try simp only [xk]);(repeat (refine leK_cons ?_ ?_;first | (exact amE) | rotate_left));(refine leK_nil ?_;exact (by show [curO (alRC m.length s.length (alOC m.length s k c)),_,Ob.tree _ (.ii (alO m.length s k c++[alR m.length s s.length (alOC m.length s k c)]))]=_;rw [hr0];rfl));(all_goals (try (simp only [xr,simprocAttr];try refine int_eq1 ?_))))
  · have h1:=of_decide_eq_false h1
    obtain rfl:k=m.length:=by omega
    have hg:∀ v,alG m s c=v→(alG m s c).1=v.1∧(alG m s c).2=v.2:=fun v h=>by rw [h];exact ⟨rfl,rfl⟩
    rcases Nat.eq_zero_or_pos m.length with hn | hn
    · obtain ⟨e1,e2⟩:=hg _ (if_neg (by omega))
      rw [e1,e2]
      rw [hr0]
      have e3:alO m.length s m.length c=[]:=List.length_eq_zero_iff.1 (by omega)
      rw [e3]
      (refine awp_frzT 2 rfl ?_;simp only [xz,simprocAttr])
      refine amGo ?_
      refine awp_cond amQ (fun h4 => ?_) (fun h4 => ?_)
      · simp at h4
      · refine amGo ?_
        (simp only [ends_normal,ends_ret];refine retH_1 [0] rfl ⟨rfl,trivial⟩ rfl rfl rfl rfl rfl ?_;try rfl)
    · (refine awp_foc 2 (0) rfl amT ?_;simp only [xr,simprocAttr])
      have hr1:((alO m.length s m.length c).getD 0 []).length=s.length:=by
        rw [List.getD_eq_getElem?_getD,List.getElem?_eq_getElem (by omega)]
        exact alO_row _ _ _ _ _ (List.getElem_mem _)
      have hk1:CuOK 999999995200 (alOC m.length s m.length c):=by rw [hr0];exact hrc
      have hk2:=pkC_ok (n:=24) hk1
      refine amGo ?_
      refine awp_cond amQ (fun h4 => ?_) (fun h4 => ?_)
      · have hs0:0<s.length:=by
          rcases Nat.eq_zero_or_pos s.length with e | e
          · rw [hl1,hr1,e] at h4;simp at h4
          · exact e
        obtain ⟨e1,e2⟩:=hg _ (if_pos ⟨hn,hs0⟩)
        rw [e1,e2]
        rw [hr0] at hk1 hk2 ⊢
        refine amGo ?_
        (refine .inr (.inl (callW_a [0] (pick_h (n:=24) (c:=r) (hk1.mono (by omega))) rfl rfl rfl rfl ⟨rfl,trivial⟩ rfl rfl rfl rfl ?_));refine amC ?_)
        refine amGo ?_
        generalize pkV 24 r=tag
        generalize pkC 24 r=cg at hk2
        generalize alO m.length s m.length c=O at hl1 hr1
        refine awp_cond amQ (fun t0 => ?_) (fun t0 => ?_)
        · have t0:=of_decide_eq_true t0
          rw [show alF tag m.length O cg=(O.set 0 ((O.getD 0 []).set 0 (amV [-1,m.length,0] cg)),aqC [-1,m.length,0] cg) from if_pos t0]
          refine amGo ?_
          (refine amB ?_;refine awp_anyG 0 [(8,[0]),(10,[3])] [0,3] [(8,[3]),(9,[0]),(10,[0])] ?_;refine amNG ?_)
          ((first | refine .inr (.inr ⟨0,_,_,callG_h (among_h (xs:=[-1,m.length,0]) (c:=cg) (hk2.mono (by omega)) (by simp)) rfl rfl rfl rfl rfl rfl rfl,?_⟩) | refine .inr ⟨0,_,_,callG_h (among_h (xs:=[-1,m.length,0]) (c:=cg) (hk2.mono (by omega)) (by simp)) rfl rfl rfl rfl rfl rfl rfl,?_⟩ | refine ⟨0,_,_,callG_h (among_h (xs:=[-1,m.length,0]) (c:=cg) (hk2.mono (by omega)) (by simp)) rfl rfl rfl rfl rfl rfl rfl,?_⟩);refine amTG ?_)
          (refine awp_unf 2 rfl (by decide) rfl rfl amT rfl ?_;simp only [xu,simprocAttr])
          (refine awp_frzT 2 rfl ?_;simp only [xz,simprocAttr])
          refine amGo ?_
          (simp only [ends_normal,ends_ret];refine retH_1 [0] rfl ⟨rfl,trivial⟩ rfl rfl rfl rfl rfl ?_;try rfl)
        have t0:=of_decide_eq_false t0
        refine amGo ?_
        refine awp_cond amQ (fun t1 => ?_) (fun t1 => ?_)
        · have t1:=of_decide_eq_true t1
          rw [show alF tag m.length O cg=(O.set 0 (O.getD 0 []++[0]),cg) from (if_neg t0).trans (if_pos t1)]
          refine amG1 ?_
          (refine awp_frzT 2 rfl ?_;simp only [xz,simprocAttr])
          refine amGo ?_
          (simp only [ends_normal,ends_ret];refine retH_1 [0] rfl ⟨rfl,trivial⟩ rfl rfl rfl rfl rfl ?_;try rfl)
        have t1:=of_decide_eq_false t1
        refine amGo ?_
        refine awp_cond amQ (fun t2 => ?_) (fun t2 => ?_)
        · have t2:=of_decide_eq_true t2
          rw [show alF tag m.length O cg=((O.take O.length).drop 1,cg) from (if_neg t0).trans ((if_neg t1).trans (if_pos t2))]
          (refine awp_unf 2 rfl (by decide) rfl rfl amT rfl ?_;simp only [xu,simprocAttr])
          rw [set_back (by omega)]
          (refine awp_frzT 2 rfl ?_;simp only [xz,simprocAttr])
          refine amGo ?_
          (simp only [ends_normal,ends_ret];refine retH_1 [0] rfl ⟨rfl,trivial⟩ rfl rfl rfl rfl rfl ?_;try rfl)
        have t2:=of_decide_eq_false t2
        rw [show alF tag m.length O cg=(O,cg) from (if_neg t0).trans ((if_neg t1).trans (if_neg t2))]
        (refine awp_unf 2 rfl (by decide) rfl rfl amT rfl ?_;simp only [xu,simprocAttr])
        rw [set_back (by omega)]
        (refine awp_frzT 2 rfl ?_;simp only [xz,simprocAttr])
        refine amGo ?_
        (simp only [ends_normal,ends_ret];refine retH_1 [0] rfl ⟨rfl,trivial⟩ rfl rfl rfl rfl rfl ?_;try rfl)
      · have hs0:¬ 0<s.length:=fun e=>by
          rw [hl1,hr1] at h4
          simp [hn,e] at h4
        obtain ⟨e1,e2⟩:=hg _ (if_neg (fun e=>hs0 e.2))
        rw [e1,e2]
        rw [hr0]
        (refine awp_unf 2 rfl (by decide) rfl rfl amT rfl ?_;simp only [xu,simprocAttr])
        rw [set_back (by omega)]
        (refine awp_frzT 2 rfl ?_;simp only [xz,simprocAttr])
        refine amGo ?_
        (simp only [ends_normal,ends_ret];refine retH_1 [0] rfl ⟨rfl,trivial⟩ rfl rfl rfl rfl rfl ?_;try rfl)
theorem algorithm_h {m s:List (List Int)} {c:Cu} (hm:m.length≤5) (hs:s.length≤16) (hc:CuOK 999999995000 c):∃ a c',a.length≤m.length∧(∀ r∈a,r.length≤17)∧(∀ m0,CuOK m0 c→CuOK (m0+170) c')∧DoesH Tryz.prog 38 [.lf (.ptr 0 0),.tv (.agg [.b (.sl (.ii m)),.b (.sl (.ii s))])] [true] [curO c] (.sl (.ii a)) [curO c']:=by
  have hol:=alO_len m.length s c m.length
  have hor:∀ r∈alO m.length s m.length c,r.length≤16:=fun r hr=>by have:=alO_row m.length s c m.length r hr;omega
  refine ⟨_,_,?_,?_,fun m0 h => ?_,algorithm_g hm hs hc⟩
  · unfold alG
    split
    · have:=(alF_ok (tag:=pkV 24 (alOC m.length s m.length c)) (n:=m.length) (o:=alO m.length s m.length c) (pkC_ok (n:=24) (alOC_ok (n:=m.length) hc hs m.length))).1
      omega
    · dsimp only;omega
  · unfold alG
    split
    · exact alF_row hor
    · intro r hr
      have:=hor r hr
      omega
  · unfold alG
    split
    · exact (alF_ok (pkC_ok (n:=24) (alOC_ok (n:=m.length) h hs m.length))).2.mono (by omega)
    · exact (alOC_ok (n:=m.length) h hs m.length).mono (by omega)
end Go.Proofs.YtlhdeofkhajigaaGreat
