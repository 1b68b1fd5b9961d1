/- Choices of games on the machine: small facts. Conditions: games that are whole. -/
import Derived.Test.YtlhdeofkhajigaaGreatGB
import Derived.Test.YtlhdeofkhajigaaGreatGA
import Derived.Test.YtlhdeofkhajigaaGreatGFR
import Derived.Test.YtlhdeofkhajigaaGreatGSC
set_option linter.all false
set_option linter.unusedSimpArgs false
set_option linter.unusedVariables false
namespace Go.Proofs.YtlhdeofkhajigaaGreat
open Go Go.RowKit Am

end Go.Proofs.YtlhdeofkhajigaaGreat
/- Ratios, and lists of numbers for positions, on the machine. Conditions: games that are whole. -/
set_option linter.all false
set_option linter.unusedSimpArgs false
set_option linter.unusedVariables false
namespace Go.Proofs.YtlhdeofkhajigaaGreat
open Go Go.RowKit Am

abbrev gA (g:GmT) (b:Bool):AV := .tv (.agg [.b (.sl (.k 2 g.list)),.b (.sl (.kii 4 (ch4 g.ch))),.b (.val (.bool b))])
/-- a fraction that is at least 0 -/
def ratioB (a:Int×Int):Bool:=frB a.1 a.2 && decide (0≤a.1)
theorem ratio_ok {a:Int×Int} (h:ratioB a=true):0≤a.1∧a.1≤100000000∧1≤a.2∧a.2≤100000:=by
  unfold ratioB at h
  rw [Bool.and_eq_true,frB_iff,decide_eq_true_eq] at h
  obtain ⟨⟨h1,h2,h3,h4,-⟩,h5⟩:=h
  exact ⟨h5,h4,h1,h2⟩
theorem isFrac_d (n d:Int):Does Tryz.prog 93 [frA (n,d)] (.imm (.bool (frB n d))) :=
  does_val (v := .bool (frB n d)) (fun _ _=>by kernel_rfl) fun M w us hm ha=>by
    obtain ⟨u,us',rfl,k1,k2⟩:=args_inv ha
    obtain rfl:=args_inv0 k2
    obtain ⟨a,b,rfl,h1,h2⟩:=ls_two k1
    obtain rfl:a = .int .i64 n:=h1
    obtain rfl:b = .int .i64 d:=h2
    exact isFrac_any w n d
theorem l2Good_d (n d:Int):Does Tryz.prog 99 [frA (n,d)] (.imm (.bool (frB n d))) :=
  does_val (v := .bool (frB n d)) (fun _ _=>by kernel_rfl) fun M w us hm ha=>by
    obtain ⟨u,us',rfl,k1,k2⟩:=args_inv ha
    obtain rfl:=args_inv0 k2
    obtain ⟨a,b,rfl,h1,h2⟩:=ls_two k1
    obtain rfl:a = .int .i64 n:=h1
    obtain rfl:b = .int .i64 d:=h2
    exact l2Good_any w n d
theorem isRatio_d (a:Int×Int):Does Tryz.prog 46 [frA a] (.imm (.bool (ratioB a))):=by
  refine spec_imm Tryz.func46 rfl Tryz.ntmps46 cfOK (fun _ _=>by kernel_rfl) rfl (Nat.le_of_ble_eq_true rfl) ?_
  intro M0 w0
  rw [Tryz.results46]
  refine amGo ?_
  ((try refine Or.inl ?_);refine ⟨_,(isFrac_d a.1 a.2),.inl rfl,?_⟩;refine amC ?_)
  refine amGo ?_
  (simp only [xe,simprocAttr];refine ⟨_,rfl,rfl,Imp.eq ?_⟩)
  show AV.bool _=AV.bool _
  simp only [Bool.cond_false_right]
  rfl
theorem l9Ratio_d (a:Int×Int):Does Tryz.prog 50 [frA a] (.imm (.bool (ratioB a))):=by
  refine spec_imm Tryz.func50 rfl Tryz.ntmps50 cfOK (fun _ _=>by kernel_rfl) rfl (Nat.le_of_ble_eq_true rfl) ?_
  intro M0 w0
  rw [Tryz.results50]
  refine amGo ?_
  ((try refine Or.inl ?_);refine ⟨_,(l2Good_d a.1 a.2),.inl rfl,?_⟩;refine amC ?_)
  refine amGo ?_
  (simp only [xe,simprocAttr];refine ⟨_,rfl,rfl,Imp.eq ?_⟩)
  show AV.bool _=AV.bool _
  simp only [Bool.cond_false_right]
  rfl
def tbB (n:Nat) (tab:List Int):Bool:=(tab.length == n) && allIn 0 1000000000000000 tab
end Go.Proofs.YtlhdeofkhajigaaGreat
/- Credits of games on the machine. Conditions: games that are whole. -/
set_option linter.all false
set_option linter.unusedSimpArgs false
set_option linter.unusedVariables false
namespace Go.Proofs.YtlhdeofkhajigaaGreat
open Go Go.RowKit Am

abbrev four (c:List Int):AV := .tv (.agg [.b (.val (.int .i64 (c.getD 0 0))),.b (.val (.int .i64 (c.getD 1 0))),.b (.val (.int .i64 (c.getD 2 0))),.b (.val (.int .i64 (c.getD 3 0)))])
theorem gain_d (c:List Int) (a:Int×Int) (h1:0≤a.2*c.getD 2 0) (h2:a.2*c.getD 2 0≤1000000000000000) (h3:0≤a.1*c.getD 3 0) (h4:a.1*c.getD 3 0≤1000000000000000):Does Tryz.prog 97 [four c,frA a] (.imm (.int (gainC a.1 a.2 c))):=by
  refine spec_imm Tryz.func97 rfl Tryz.ntmps97 cfOK (fun _ _=>by kernel_rfl) rfl (Nat.le_of_ble_eq_true rfl) ?_
  intro M0 w0
  rw [Tryz.results97]
  refine amGo ?_
  (simp only [xe,simprocAttr];refine ⟨_,rfl,rfl,Imp.eq ?_⟩)
  rfl
end Go.Proofs.YtlhdeofkhajigaaGreat
