/- Algorithms and mixtures, on the machine. Conditions: problems that are right. -/
import Derived.Test.YtlhdeofkhajigaaGreatME
import Derived.Test.YtlhdeofkhajigaaGreatOA
import Derived.Test.YtlhdeofkhajigaaGreatPS
set_option linter.all false
set_option linter.unusedSimpArgs false
set_option linter.unusedVariables false
namespace Go.Proofs.YtlhdeofkhajigaaGreat
open Go Go.RowKit Am

theorem within_d (n lo hi:Int):Does Tryz.prog 79 [.int n,.int lo,.int hi] (.imm (.bool (rng n lo hi))):=by
  refine spec_imm Tryz.func79 rfl Tryz.ntmps79 cfOK (fun _ _=>by kernel_rfl) rfl (Nat.le_of_ble_eq_true rfl) ?_
  intro M0 w0
  rw [Tryz.results79]
  refine amGo ?_
  (simp only [xe,simprocAttr];refine ⟨_,rfl,rfl,Imp.eq ?_⟩)
  show AV.bool _=AV.bool _
  congr
  by_cases h1:lo≤n<;>by_cases h2:n≤hi<;>simp [rng,h1,h2]
theorem l1In_d (n lo hi:Int):Does Tryz.prog 80 [.int n,.int lo,.int hi] (.imm (.bool (rng n lo hi))):=by
  refine spec_imm Tryz.func80 rfl Tryz.ntmps80 cfOK (fun _ _=>by kernel_rfl) rfl (Nat.le_of_ble_eq_true rfl) ?_
  intro M0 w0
  rw [Tryz.results80]
  refine amGo ?_
  (simp only [xe,simprocAttr];refine ⟨_,rfl,rfl,Imp.eq ?_⟩)
  show AV.bool _=AV.bool _
  congr
  by_cases h1:lo≤n<;>by_cases h2:n≤hi<;>simp [rng,h1,h2]
theorem isState_d (m s:List (List Int)) (x:Int):Does Tryz.prog 103 [prA m s,.int x] (.imm (.bool (rng x 0 ((m.length:Int)-1)))):=by
  refine spec_imm Tryz.func103 rfl Tryz.ntmps103 cfOK (fun _ _=>by kernel_rfl) rfl (Nat.le_of_ble_eq_true rfl) ?_
  intro M0 w0
  rw [Tryz.results103]
  (refine awp_fits 0 rfl fun hf => ?_;simp only [xp,simprocAttr] at hf;simp only [xf,simprocAttr] at hf)
  refine amGo ?_
  ((try refine Or.inl ?_);refine ⟨_,(within_d _ _ _),.inl rfl,?_⟩;refine amC ?_)
  refine amGo ?_
  (simp only [xe,simprocAttr];refine ⟨_,rfl,rfl,Imp.eq ?_⟩)
  rfl
theorem areServed_d (m s:List (List Int)) (row:List Int) (hrow:∀ r,r<s.length→(s.getD r []).length=m.length):Does Tryz.prog 106 [prA m s,.sl (.ints row)] (.imm (.bool (servB m.length s row))):=by
  refine spec_imm Tryz.func106 rfl Tryz.ntmps106 cfOK (fun _ _=>by kernel_rfl) rfl (Nat.le_of_ble_eq_true rfl) ?_
  intro M0 w0
  rw [Tryz.results106]
  (refine awp_fits 0 rfl fun hf => ?_;simp only [xp,simprocAttr] at hf;simp only [xf,simprocAttr] at hf)
  (refine awp_fits 1 rfl fun hg => ?_;simp only [xp,simprocAttr] at hg;simp only [xf,simprocAttr] at hg)
  refine amGo ?_
  refine awp_cond amQ (fun hc => ?_) (fun hc => ?_)
  · have hn:row.length≠s.length:=by simp at hc;omega
    refine amGo ?_
    (simp only [xe,simprocAttr];refine ⟨_,rfl,rfl,Imp.eq ?_⟩)
    rw [servB_len hn]
  have hl:row.length=s.length:=by simp at hc;omega
  refine amGo ?_
  refine awp_rounds (α:=Nat) (fun k=>[(15,true,.int k)]) [2,13,14] (fun _=>[.box [.b (.sl (.ii m)),.b (.sl (.ii s))]]) (fun k=>k≤row.length∧∀ r (hr:r<k),toOk m.length s r (row.getD r 0)=true) (fun k=>row.length-k) 0 (by ((try simp only [xk]);(repeat (refine leK_cons ?_ ?_;first | (exact amE) | rotate_left));(try exact leK_nil rfl);(all_goals (try (simp only [xr,simprocAttr];try refine int_eq1 ?_))))) ⟨Nat.zero_le _,fun r hr=>by omega⟩ fun k hk => ?_
  obtain ⟨hk,hp⟩:=hk
  simp only [xr,simprocAttr]
  refine amGo ?_
  refine awp_cond amQ (fun hd => ?_) (fun hd => ?_)
  · have hk':k<row.length:=by simpa using hd
    refine amGo ?_
    ((try refine Or.inl ?_);refine ⟨_,(isState_d _ _ _),.inl rfl,?_⟩;refine amC ?_)
    have hr:=hrow k (by omega)
    refine And.intro (fun h => ?_) ?_
    · have h:=rng_iff.1 h
      exact ⟨by decide,h.1,by omega⟩
    refine amS ?_
    refine awp_cond amQ (fun he => ?_) (fun he => ?_)
    · have hn:toOk m.length s k (row.getD k 0)=false:=by
        unfold toOk at2
        cases hq:rng (row.getD k 0) 0 ((m.length:Int)-1)
        · rfl
        · rw [hq] at he
          simpa using he
      refine amGo ?_
      (simp only [xe,simprocAttr];refine ⟨_,rfl,rfl,Imp.eq ?_⟩)
      rw [servB_no hk' (by rw [← getD_in (d:=0) hk'];exact hn)]
    · have hn:toOk m.length s k (row.getD k 0)=true:=by
        unfold toOk at2
        cases hq:rng (row.getD k 0) 0 ((m.length:Int)-1)
        · rw [hq] at he;cases he
        · rw [hq] at he
          simpa using he
      refine amGo ?_
      refine ⟨k+1,by omega,fun r hr => ?_,by omega,.inl ?_⟩
      · rcases Nat.lt_or_ge r k with h1 | h1
        · exact hp r h1
        · rw [show r=k by omega];exact hn
      · ((try simp only [xk]);(repeat (refine leK_cons ?_ ?_;first | (exact amE) | rotate_left));(try exact leK_nil rfl);(all_goals (try (simp only [xr,simprocAttr];try refine int_eq1 ?_))))
  · have hk':k=row.length:=by simp at hd;omega
    subst hk'
    refine amGo ?_
    (simp only [xe,simprocAttr];refine ⟨_,rfl,rfl,Imp.eq ?_⟩)
    rw [servB_yes hl fun r hr=>by rw [← getD_in (d:=0) hr];exact hp r hr]
theorem isAlgorithm1_d (m s:List (List Int)) (row:List Int) (hrow:∀ r,r<s.length→(s.getD r []).length=m.length):Does Tryz.prog 105 [.sl (.ints row),.lf (.ip [.sl (.ii m),.sl (.ii s)] 0)] (.imm (.bool (!servB m.length s row))):=by
  refine spec_imm Tryz.func105 rfl Tryz.ntmps105 cfOK (fun _ _=>by kernel_rfl) rfl (Nat.le_of_ble_eq_true rfl) ?_
  intro M0 w0
  rw [Tryz.results105]
  refine amGo ?_
  ((try refine Or.inl ?_);refine ⟨_,(areServed_d _ _ _ hrow),.inl rfl,?_⟩;refine amC ?_)
  refine amGo ?_
  (simp only [xe,simprocAttr];refine ⟨_,rfl,rfl,Imp.eq ?_⟩)
  rfl
theorem isAlgorithm_d (m s next:List (List Int)) (hrow:∀ r,r<s.length→(s.getD r []).length=m.length):Does Tryz.prog 58 [prA m s,.sl (.ii next)] (.imm (.bool (algB m s next))):=by
  refine spec_imm Tryz.func58 rfl Tryz.ntmps58 cfOK (fun _ _=>by kernel_rfl) rfl (Nat.le_of_ble_eq_true rfl) ?_
  intro M0 w0
  rw [Tryz.results58]
  refine amGo ?_
  ((try refine Or.inl ?_);refine ⟨_,(fun _=>containsFuncII_d next _ [.ip [.sl (.ii m),.sl (.ii s)] 0] (fun r => !servB m.length s r) rfl fun j hj=>isAlgorithm1_d m s _ hrow),.inl rfl,?_⟩;refine amC ?_)
  refine amGo ?_
  (simp only [xe,simprocAttr];refine ⟨_,rfl,rfl,Imp.eq ?_⟩)
  have e:(!next.any fun r => !servB m.length s r)=next.all (servB m.length s):=by rw [List.not_any_eq_all_not];simp
  show AV.bool _=AV.bool _
  rw [e]
  unfold algB
  congr 1
  by_cases h:next.length=m.length
  · simp [h]
  · have:¬ ((next.length:Int)=m.length):=by omega
    simp [h,this]
theorem dec_len (a b:Nat):decide ((a:Int)=b)=(a == b):=by rw [Bool.eq_iff_iff,decide_eq_true_eq,beq_iff_eq];omega
theorem isProblem_d (m s:List (List Int)):Does Tryz.prog 102 [prA m s] (.imm (.bool (probB m s))) :=
  does_val (fun _ _=>by kernel_rfl) fun M w us hm ha=>by
    obtain ⟨u,us',rfl,h1,h2⟩:=args_inv ha
    obtain rfl:=args_inv0 h2
    obtain ⟨a,b,rfl,h3,h4⟩:=ls_two h1
    exact isProblem_any w _ m s ⟨a,b,rfl,sl_of_sii hm h3,sl_of_sii hm h4⟩
theorem prob_rows {m s:List (List Int)} (h:probB m s=true):∀ r,r<s.length→(s.getD r []).length=m.length:=fun r hr=>by
  unfold probB at h
  simp only [Bool.and_eq_true,List.all_eq_true] at h
  have:=h.2 _ (List.getElem_mem hr)
  unfold reqB at this
  simp only [Bool.and_eq_true,beq_iff_eq] at this
  rw [getD_in hr]
  exact this.1.1
end Go.Proofs.YtlhdeofkhajigaaGreat
/- Mixtures by the reference's functions, on the machine. Conditions: none. -/
set_option linter.all false
set_option linter.unusedSimpArgs false
set_option linter.unusedVariables false
namespace Go.Proofs.YtlhdeofkhajigaaGreat
open Go Go.RowKit Am

theorem toOk_bif {n:Nat} {s:List (List Int)} {r:Nat} {x:Int}:(bif !rng x 0 ((n:Int)-1) then true else decide ((s.getD r []).getD x.toNat 0<0)) = !toOk n s r x:=by
  show (bif !rng x 0 ((n:Int)-1) then true else decide (at2 s r x.toNat<0))=_
  unfold toOk
  cases rng x 0 ((n:Int)-1)
  · rfl
  · by_cases h:at2 s r x.toNat<0
    · simp [h]
    · simp [h];omega
theorem l8Alg_d (m s next:List (List Int)) (hrow:∀ r,r<s.length→(s.getD r []).length=m.length):Does Tryz.prog 71 [prA m s,.sl (.ii next)] (.imm (.bool (algB m s next))):=by
  refine spec_imm Tryz.func71 rfl Tryz.ntmps71 cfOK (fun _ _=>by kernel_rfl) rfl (Nat.le_of_ble_eq_true rfl) ?_
  intro M0 w0
  rw [Tryz.results71]
  (refine awp_fits 0 rfl fun hf => ?_;simp only [xp,simprocAttr] at hf;simp only [xf,simprocAttr] at hf)
  (refine awp_fits 1 rfl fun hg => ?_;simp only [xp,simprocAttr] at hg;simp only [xf,simprocAttr] at hg)
  obtain ⟨hg1,hg2⟩:=hg
  refine amGo ?_
  refine awp_cond amQ (fun hc => ?_) (fun hc => ?_)
  · have hn:next.length≠m.length:=by simp at hc;omega
    refine amGo ?_
    (simp only [xe,simprocAttr];refine ⟨_,rfl,rfl,Imp.eq ?_⟩)
    rw [algB_len hn]
  have hl:next.length=m.length:=by simp at hc;omega
  rw [algB_yes hl]
  refine amGo ?_
  refine awp_rounds (α:=Nat) (fun k=>[(5,true,.int k)]) [1,2] (fun _=>[.box [.b (.sl (.ii m)),.b (.sl (.ii s))]]) (fun k=>k≤next.length∧∀ i (hi:i<k),servB m.length s (next.getD i [])=true) (fun k=>next.length-k) 0 (by ((try simp only [xk]);(repeat (refine leK_cons ?_ ?_;first | (exact amE) | rotate_left));(try exact leK_nil rfl);(all_goals (try (simp only [xr,simprocAttr];try refine int_eq1 ?_))))) ⟨Nat.zero_le _,fun r hr=>by omega⟩ fun k hk => ?_
  obtain ⟨hk,hp⟩:=hk
  simp only [xr,simprocAttr]
  refine amGo ?_
  refine awp_cond amQ (fun hd => ?_) (fun hd => ?_)
  · have hk':k<next.length:=by simpa using hd
    have hno:servB m.length s (next.getD k [])=false→next.all (servB m.length s)=false:=fun h=>by
      rw [List.all_eq_false]
      exact ⟨next[k],List.getElem_mem hk',by rw [getD_in hk'] at h;simp [h]⟩
    have hlen:=hg2 (next.getD k []) (by rw [getD_in hk'];exact List.getElem_mem hk')
    refine amGo ?_
    refine awp_cond amQ (fun he => ?_) (fun he => ?_)
    · have hn:(next.getD k []).length≠s.length:=by simp at he ⊢;omega
      refine amGo ?_
      (simp only [xe,simprocAttr];refine ⟨_,rfl,rfl,Imp.eq ?_⟩)
      rw [hno (servB_len hn)]
    have hm:(next.getD k []).length=s.length:=by simp at he ⊢;omega
    refine amGo ?_
    refine awp_rounds (α:=Nat) (fun j=>[(6,true,.int j)]) [1,2,5] (fun _=>[.box [.b (.sl (.ii m)),.b (.sl (.ii s))]]) (fun j=>j≤(next.getD k []).length∧∀ r (hr:r<j),toOk m.length s r ((next.getD k []).getD r 0)=true) (fun j=>(next.getD k []).length-j) 0 (by ((try simp only [xk]);(repeat (refine leK_cons ?_ ?_;first | (exact amE) | rotate_left));(try exact leK_nil rfl);(all_goals (try (simp only [xr,simprocAttr];try refine int_eq1 ?_))))) ⟨Nat.zero_le _,fun r hr=>by omega⟩ fun j hj => ?_
    obtain ⟨hj,hq⟩:=hj
    simp only [xr,simprocAttr]
    refine amGo ?_
    refine awp_cond amQ (fun hu => ?_) (fun hu => ?_)
    · have hj':j<(next.getD k []).length:=by simp at hu ⊢;omega
      have hr:=hrow j (by omega)
      refine amGo ?_
      refine ⟨_,l1In_d _ _ _,.inl rfl,?_⟩
      simp only [xr,simprocAttr]
      refine amS ?_
      refine And.intro (fun h => ?_) ?_
      · have h:=rng_iff.1 h
        exact ⟨by decide,h.1,by omega⟩
      rw [toOk_bif (n:=m.length) (s:=s) (r:=j)]
      refine awp_cond amQ (fun hv => ?_) (fun hv => ?_)
      · simp only [Bool.not_eq_true'] at hv
        refine amGo ?_
        (simp only [xe,simprocAttr];refine ⟨_,rfl,rfl,Imp.eq ?_⟩)
        rw [hno (servB_no hj' (by rw [← getD_in (d:=0) hj'];exact hv))]
      · simp only [Bool.not_eq_false'] at hv
        refine amGo ?_
        refine ⟨j+1,by omega,fun r hr => ?_,by omega,.inl ?_⟩
        · rcases Nat.lt_or_ge r j with h1 | h1
          · exact hq r h1
          · rw [show r=j by omega];exact hv
        · ((try simp only [xk]);(repeat (refine leK_cons ?_ ?_;first | (exact amE) | rotate_left));(try exact leK_nil rfl);(all_goals (try (simp only [xr,simprocAttr];try refine int_eq1 ?_))))
    · have hj':j=(next.getD k []).length:=by have hu:=of_decide_eq_false hu;omega
      subst hj'
      have hv:servB m.length s (next.getD k [])=true:=servB_yes hm fun r hr=>by rw [← getD_in (d:=0) hr];exact hq r hr
      refine amGo ?_
      refine ⟨k+1,by omega,fun i hi => ?_,by omega,.inl ?_⟩
      · rcases Nat.lt_or_ge i k with h1 | h1
        · exact hp i h1
        · rw [show i=k by omega];exact hv
      · ((try simp only [xk]);(repeat (refine leK_cons ?_ ?_;first | (exact amE) | rotate_left));(try exact leK_nil rfl);(all_goals (try (simp only [xr,simprocAttr];try refine int_eq1 ?_))))
  · have hk':k=next.length:=by simp at hd;omega
    subst hk'
    refine amGo ?_
    (simp only [xe,simprocAttr];refine ⟨_,rfl,rfl,Imp.eq ?_⟩)
    rw [show next.all (servB m.length s)=true from List.all_eq_true.2 fun x hx=>by
      obtain ⟨i,hi,rfl⟩:=List.mem_iff_getElem.1 hx
      rw [← getD_in (d:=[]) hi]
      exact hp i hi]
end Go.Proofs.YtlhdeofkhajigaaGreat
