/- Choices of games on the machine: small facts. Conditions: games that are whole. -/
import Derived.Test.YtlhdeofkhajigaaGreatGB
import Derived.Test.YtlhdeofkhajigaaGreatGA
import Derived.Test.YtlhdeofkhajigaaGreatGFR
import Derived.Test.YtlhdeofkhajigaaGreatGSC
set_option linter.all false
set_option linter.unusedSimpArgs false
set_option linter.unusedVariables false
namespace Go.Proofs.YtlhdeofkhajigaaGreat
open Go Go.RowKit Am

abbrev bT (b:Bool):TV := .one (.b (.val (.bool b)))
theorem all_no {α:Type} {p:α→Bool} {xs:List α} {i:Nat} (hi:i<xs.length) (d:α) (h:p (xs.getD i d)=false):xs.all p=false:=by
  rw [Bool.eq_false_iff]
  intro e
  have:=List.all_eq_true.1 e (xs.getD i d) (by rw [getD_in hi];exact List.getElem_mem hi)
  rw [h] at this
  cases this
end Go.Proofs.YtlhdeofkhajigaaGreat
/- Ratios, and lists of numbers for positions, on the machine. Conditions: games that are whole. -/
set_option linter.all false
set_option linter.unusedSimpArgs false
set_option linter.unusedVariables false
namespace Go.Proofs.YtlhdeofkhajigaaGreat
open Go Go.RowKit Am

/-- a fraction that is at least 0 -/
def ratioB (a:Int×Int):Bool:=frB a.1 a.2 && decide (0≤a.1)
theorem ratio_ok {a:Int×Int} (h:ratioB a=true):0≤a.1∧a.1≤100000000∧1≤a.2∧a.2≤100000:=by
  unfold ratioB at h
  rw [Bool.and_eq_true,frB_iff,decide_eq_true_eq] at h
  obtain ⟨⟨h1,h2,h3,h4,-⟩,h5⟩:=h
  exact ⟨h5,h4,h1,h2⟩
theorem isFrac_d (n d:Int):Does Tryz.prog 93 [frA (n,d)] (.imm (.bool (frB n d))) :=
  does_val (v := .bool (frB n d)) (fun _ _=>by kernel_rfl) fun M w us hm ha=>by
    obtain ⟨u,us',rfl,k1,k2⟩:=args_inv ha
    obtain rfl:=args_inv0 k2
    obtain ⟨a,b,rfl,h1,h2⟩:=ls_two k1
    obtain rfl:a = .int .i64 n:=h1
    obtain rfl:b = .int .i64 d:=h2
    exact isFrac_any w n d
theorem l2Good_d (n d:Int):Does Tryz.prog 99 [frA (n,d)] (.imm (.bool (frB n d))) :=
  does_val (v := .bool (frB n d)) (fun _ _=>by kernel_rfl) fun M w us hm ha=>by
    obtain ⟨u,us',rfl,k1,k2⟩:=args_inv ha
    obtain rfl:=args_inv0 k2
    obtain ⟨a,b,rfl,h1,h2⟩:=ls_two k1
    obtain rfl:a = .int .i64 n:=h1
    obtain rfl:b = .int .i64 d:=h2
    exact l2Good_any w n d
theorem isRatio_d (a:Int×Int):Does Tryz.prog 46 [frA a] (.imm (.bool (ratioB a))):=by
  refine spec_imm Tryz.func46 rfl Tryz.ntmps46 cfOK (fun _ _=>by kernel_rfl) rfl (Nat.le_of_ble_eq_true rfl) ?_
  intro M0 w0
  rw [Tryz.results46]
  refine amGo ?_
  ((try refine Or.inl ?_);refine ⟨_,(isFrac_d a.1 a.2),.inl rfl,?_⟩;refine amC ?_)
  refine amGo ?_
  (simp only [xe,simprocAttr];refine ⟨_,rfl,rfl,Imp.eq ?_⟩)
  show AV.bool _=AV.bool _
  simp only [Bool.cond_false_right]
  rfl
theorem l9Ratio_d (a:Int×Int):Does Tryz.prog 50 [frA a] (.imm (.bool (ratioB a))):=by
  refine spec_imm Tryz.func50 rfl Tryz.ntmps50 cfOK (fun _ _=>by kernel_rfl) rfl (Nat.le_of_ble_eq_true rfl) ?_
  intro M0 w0
  rw [Tryz.results50]
  refine amGo ?_
  ((try refine Or.inl ?_);refine ⟨_,(l2Good_d a.1 a.2),.inl rfl,?_⟩;refine amC ?_)
  refine amGo ?_
  (simp only [xe,simprocAttr];refine ⟨_,rfl,rfl,Imp.eq ?_⟩)
  show AV.bool _=AV.bool _
  simp only [Bool.cond_false_right]
  rfl
theorem areBelow1_d (x n:Int) (hn : -9223372036854775807≤n∧n≤9223372036854775807):Does Tryz.prog 130 [.int x,.lf (.ip [.val (.int .i64 n)] 0)] (.imm (.bool (!rng x 0 (n-1)))):=by
  refine spec_imm Tryz.func130 rfl Tryz.ntmps130 cfOK (fun _ _=>by kernel_rfl) rfl (Nat.le_of_ble_eq_true rfl) ?_
  intro M0 w0
  rw [Tryz.results130]
  refine amGo ?_
  ((try refine Or.inl ?_);refine ⟨_,(within_d _ _ _),.inl rfl,?_⟩;refine amC ?_)
  refine amGo ?_
  (simp only [xe,simprocAttr];refine ⟨_,rfl,rfl,Imp.eq ?_⟩)
  rfl
theorem areBelow_d (n:Int) (xs:List Int) (hn : -9223372036854775807≤n∧n≤9223372036854775807):Does Tryz.prog 94 [.int n,.sl (.ints xs)] (.imm (.bool (allIn 0 (n-1) xs))):=by
  refine spec_imm Tryz.func94 rfl Tryz.ntmps94 cfOK (fun _ _=>by kernel_rfl) rfl (Nat.le_of_ble_eq_true rfl) ?_
  intro M0 w0
  rw [Tryz.results94]
  refine amGo ?_
  ((try refine Or.inl ?_);refine ⟨_,(containsFuncI_d xs _ [.ip [.val (.int .i64 n)] 0] (fun x => !rng x 0 (n-1)) rfl fun j hj=>areBelow1_d _ n hn),.inl rfl,?_⟩;refine amC ?_)
  refine amGo ?_
  (simp only [xe,simprocAttr];refine ⟨_,rfl,rfl,Imp.eq ?_⟩)
  show AV.bool _=AV.bool _
  congr 1
  rw [List.not_any_eq_all_not]
  simp [allIn]
def tbB (n:Nat) (tab:List Int):Bool:=(tab.length == n) && allIn 0 1000000000000000 tab
theorem areNumbers_d (tab:List Int) (k:Nat) (hk:k≤1000):Does Tryz.prog 47 [.sl (.ints tab),.int k] (.imm (.bool (tbB k tab))):=by
  refine spec_imm Tryz.func47 rfl Tryz.ntmps47 cfOK (fun _ _=>by kernel_rfl) rfl (Nat.le_of_ble_eq_true rfl) ?_
  intro M0 w0
  rw [Tryz.results47]
  (refine awp_fits 0 rfl fun hf => ?_;simp only [xp,simprocAttr] at hf;simp only [xf,simprocAttr] at hf)
  refine amGo ?_
  ((try refine Or.inl ?_);refine ⟨_,(fun _=>areBelow_d 1000000000000001 tab (by omega)),.inl rfl,?_⟩;refine amC ?_)
  refine amGo ?_
  (simp only [xe,simprocAttr];refine ⟨_,rfl,rfl,Imp.eq ?_⟩)
  show AV.bool _=AV.bool _
  simp only [Bool.cond_false_right,dec_len]
  rfl
end Go.Proofs.YtlhdeofkhajigaaGreat
/- Credits of games on the machine. Conditions: games that are whole. -/
set_option linter.all false
set_option linter.unusedSimpArgs false
set_option linter.unusedVariables false
namespace Go.Proofs.YtlhdeofkhajigaaGreat
open Go Go.RowKit Am

abbrev four (c:List Int):AV := .tv (.agg [.b (.val (.int .i64 (c.getD 0 0))),.b (.val (.int .i64 (c.getD 1 0))),.b (.val (.int .i64 (c.getD 2 0))),.b (.val (.int .i64 (c.getD 3 0)))])
theorem gain_d (c:List Int) (a:Int×Int) (h1:0≤a.2*c.getD 2 0) (h2:a.2*c.getD 2 0≤1000000000000000) (h3:0≤a.1*c.getD 3 0) (h4:a.1*c.getD 3 0≤1000000000000000):Does Tryz.prog 97 [four c,frA a] (.imm (.int (gainC a.1 a.2 c))):=by
  refine spec_imm Tryz.func97 rfl Tryz.ntmps97 cfOK (fun _ _=>by kernel_rfl) rfl (Nat.le_of_ble_eq_true rfl) ?_
  intro M0 w0
  rw [Tryz.results97]
  refine amGo ?_
  (simp only [xe,simprocAttr];refine ⟨_,rfl,rfl,Imp.eq ?_⟩)
  rfl
theorem tab_at {n:Nat} {tab:List Int} (h:tbB n tab=true) {j:Nat} (hj:j<n):j<tab.length∧0≤tab.getD j 0∧tab.getD j 0≤1000000000000000:=by
  unfold tbB at h
  rw [Bool.and_eq_true,beq_iff_eq,allIn_iff] at h
  have hj':j<tab.length:=by omega
  have:=h.2 (tab.getD j 0) (by rw [getD_in hj'];exact List.getElem_mem hj')
  exact ⟨hj',this⟩
abbrev b2V (p q:Bool):AV := .tup [bT p,bT q]
end Go.Proofs.YtlhdeofkhajigaaGreat
