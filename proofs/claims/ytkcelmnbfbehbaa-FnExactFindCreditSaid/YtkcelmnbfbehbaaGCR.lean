/- Choices of games on the machine: small facts. Conditions: games that are whole. -/
import Derived.Test.YtkcelmnbfbehbaaGB
import Derived.Test.YtkcelmnbfbehbaaGA
import Derived.Test.YtkcelmnbfbehbaaME
import Derived.Test.YtkcelmnbfbehbaaOB
import Derived.Test.YtkcelmnbfbehbaaGCT
import Derived.Test.YtkcelmnbfbehbaaGSC
set_option linter.all false
set_option linter.unusedSimpArgs false
set_option linter.unusedVariables false
namespace Go.Proofs.Ytkcelmnbfbehbaa
open Go Go.RowKit Am

theorem map_at {α β:Type} {f:α→β} {xs:List α} {k:Nat} (h:k<xs.length) (d:α) (d':β):(xs.map f).getD k d'=f (xs.getD k d):=by simp [h]
theorem ch4_at {ch:List (List (List (List Int)))} {i:Nat} (h:i<ch.length):(ch4 ch).getD i []=(ch.getD i []).map fun r=>r.map c4:=map_at h [] []
theorem ch4_at2 {ch:List (List (List (List Int)))} {i r:Nat} (h:i<ch.length) (hr:r<(ch.getD i []).length):((ch4 ch).getD i []).getD r []=((ch.getD i []).getD r []).map c4:=by
  rw [ch4_at h]
  exact map_at hr [] []
theorem gmQ_eq {m s:List (List Int)} {y:Nat} (h:takesB m s y []=true):gmQ m s y=gm m s y:=by unfold gmQ;rw [h,Int.toNat_natCast];rfl
theorem gmQ_takes {m s:List (List Int)} {x:Int} (h:(gmQ m s x).2=false):takesB m s x []=true:=by
  cases e:takesB m s x []
  · rw [gmQ_bad e] at h;cases h
  · rfl
theorem gmQ_full {m s:List (List Int)} {x:Int} (h:(gmQ m s x).2=false):GmFull m s (gmQ m s x).1:=by
  have ht:=gmQ_takes h
  obtain ⟨hp,⟨y,rfl,hy⟩,-,-⟩:=takes_ok ht
  rw [gmQ_eq ht] at h ⊢
  exact gm_full hp hy h
theorem gameOf_g {m s:List (List Int)} {x:Int} (h:(gmQ m s x).2=false):DoesH Try.prog 25 [prA m s,.int x] [] [] (.tup [.one (.ptr 0 0),.one (.b (.val (.bool true)))]) [.box [.own 1,.own 2],.row 74 (.k 2 (gmQ m s x).1.list),.row 78 (.kii 6 (gmQ m s x).1.ch)]:=by
  have:=gameOf_h m s x
  unfold gmR gmO at this
  rw [h] at this
  exact this
theorem gameOf_b {m s:List (List Int)} {x:Int} (h:(gmQ m s x).2=true):DoesH Try.prog 25 [prA m s,.int x] [] [] (.tup [.one (.b (.val (.pointer none))),.one (.b (.val (.bool false)))]) []:=by
  have:=gameOf_h m s x
  unfold gmR gmO at this
  rw [h] at this
  exact this
end Go.Proofs.Ytkcelmnbfbehbaa
/- Ratios, and lists of numbers for positions, on the machine. Conditions: games that are whole. -/
set_option linter.all false
set_option linter.unusedSimpArgs false
set_option linter.unusedVariables false
namespace Go.Proofs.Ytkcelmnbfbehbaa
open Go Go.RowKit Am

abbrev gA (g:GmT) (b:Bool):AV := .tv (.agg [.b (.sl (.k 2 g.list)),.b (.sl (.kii 4 (ch4 g.ch))),.b (.val (.bool b))])
abbrev gI (g:GmT):AV := .lf (.ip [.sl (.k 2 g.list),.sl (.kii 6 g.ch)] 0)
/-- a fraction that is at least 0 -/
def ratioB (a:Int×Int):Bool:=frB a.1 a.2 && decide (0≤a.1)
theorem ratio_ok {a:Int×Int} (h:ratioB a=true):0≤a.1∧a.1≤100000000∧1≤a.2∧a.2≤100000:=by
  unfold ratioB at h
  rw [Bool.and_eq_true,frB_iff,decide_eq_true_eq] at h
  obtain ⟨⟨h1,h2,h3,h4,-⟩,h5⟩:=h
  exact ⟨h5,h4,h1,h2⟩
theorem isFrac_d (n d:Int):Does Try.prog 46 [frA (n,d)] (.imm (.bool (frB n d))) :=
  does_val (v := .bool (frB n d)) (fun _ _=>by kernel_rfl) fun M w us hm ha=>by
    obtain ⟨u,us',rfl,k1,k2⟩:=args_inv ha
    obtain rfl:=args_inv0 k2
    obtain ⟨a,b,rfl,h1,h2⟩:=ls_two k1
    obtain rfl:a = .int .i64 n:=h1
    obtain rfl:b = .int .i64 d:=h2
    exact isFrac_any w n d
theorem l2Good_d (n d:Int):Does Try.prog 35 [frA (n,d)] (.imm (.bool (frB n d))) :=
  does_val (v := .bool (frB n d)) (fun _ _=>by kernel_rfl) fun M w us hm ha=>by
    obtain ⟨u,us',rfl,k1,k2⟩:=args_inv ha
    obtain rfl:=args_inv0 k2
    obtain ⟨a,b,rfl,h1,h2⟩:=ls_two k1
    obtain rfl:a = .int .i64 n:=h1
    obtain rfl:b = .int .i64 d:=h2
    exact l2Good_any w n d
theorem isRatio_d (a:Int×Int):Does Try.prog 26 [frA a] (.imm (.bool (ratioB a))):=by
  refine spec_imm Try.func26 rfl Try.ntmps26 cfOK (fun _ _=>by kernel_rfl) rfl (Nat.le_of_ble_eq_true rfl) ?_
  intro M0 w0
  rw [Try.results26]
  refine amGo ?_
  ((try refine Or.inl ?_);refine ⟨_,(isFrac_d a.1 a.2),.inl rfl,?_⟩;refine amC ?_)
  refine amGo ?_
  (simp only [xe,simprocAttr];refine ⟨_,rfl,rfl,Imp.eq ?_⟩)
  show AV.bool _=AV.bool _
  simp only [Bool.cond_false_right]
  rfl
theorem l9Ratio_d (a:Int×Int):Does Try.prog 20 [frA a] (.imm (.bool (ratioB a))):=by
  refine spec_imm Try.func20 rfl Try.ntmps20 cfOK (fun _ _=>by kernel_rfl) rfl (Nat.le_of_ble_eq_true rfl) ?_
  intro M0 w0
  rw [Try.results20]
  refine amGo ?_
  ((try refine Or.inl ?_);refine ⟨_,(l2Good_d a.1 a.2),.inl rfl,?_⟩;refine amC ?_)
  refine amGo ?_
  (simp only [xe,simprocAttr];refine ⟨_,rfl,rfl,Imp.eq ?_⟩)
  show AV.bool _=AV.bool _
  simp only [Bool.cond_false_right]
  rfl
theorem toFrac_d (a:Int×Int):Does Try.prog 8 [frA a] (.imm (frA a)):=by
  refine spec_imm Try.func8 rfl Try.ntmps8 cfOK (fun _ _=>by kernel_rfl) rfl (Nat.le_of_ble_eq_true rfl) ?_
  intro M0 w0
  rw [Try.results8]
  refine amGo ?_
  (simp only [xec,simprocAttr];refine ⟨_,⟨amK,rfl⟩,rfl,Imp.eq ?_⟩)
  rfl
end Go.Proofs.Ytkcelmnbfbehbaa
/- Credits of games on the machine. Conditions: games that are whole. -/
set_option linter.all false
set_option linter.unusedSimpArgs false
set_option linter.unusedVariables false
namespace Go.Proofs.Ytkcelmnbfbehbaa
open Go Go.RowKit Am

abbrev four (c:List Int):AV := .tv (.agg [.b (.val (.int .i64 (c.getD 0 0))),.b (.val (.int .i64 (c.getD 1 0))),.b (.val (.int .i64 (c.getD 2 0))),.b (.val (.int .i64 (c.getD 3 0)))])
theorem gain_d (c:List Int) (a:Int×Int) (h1:0≤a.2*c.getD 2 0) (h2:a.2*c.getD 2 0≤1000000000000000) (h3:0≤a.1*c.getD 3 0) (h4:a.1*c.getD 3 0≤1000000000000000):Does Try.prog 50 [four c,frA a] (.imm (.int (gainC a.1 a.2 c))):=by
  refine spec_imm Try.func50 rfl Try.ntmps50 cfOK (fun _ _=>by kernel_rfl) rfl (Nat.le_of_ble_eq_true rfl) ?_
  intro M0 w0
  rw [Try.results50]
  refine amGo ?_
  (simp only [xe,simprocAttr];refine ⟨_,rfl,rfl,Imp.eq ?_⟩)
  rfl
theorem l10Of_d (a:Int×Int):Does Try.prog 22 [frA a] (.imm (frA (a.2,a.1))):=by
  refine spec_imm Try.func22 rfl Try.ntmps22 cfOK (fun _ _=>by kernel_rfl) rfl (Nat.le_of_ble_eq_true rfl) ?_
  intro M0 w0
  rw [Try.results22]
  refine amGo ?_
  (simp only [xec,simprocAttr];refine ⟨_,⟨amK,rfl⟩,rfl,Imp.eq ?_⟩)
  rfl
theorem l10Gain_d (c:List Int) (a:Int×Int) (h1:0≤a.2*c.getD 2 0) (h2:a.2*c.getD 2 0≤1000000000000000) (h3:0≤a.1*c.getD 3 0) (h4:a.1*c.getD 3 0≤1000000000000000):Does Try.prog 64 [frA (a.2,a.1),four (c4 c)] (.imm (.int (gainC a.1 a.2 c))):=by
  have e1:(c4 c).getD 2 0=c.getD 2 0:=rfl
  have e2:(c4 c).getD 3 0=c.getD 3 0:=rfl
  rw [← e1] at h1 h2
  rw [← e2] at h3 h4
  refine spec_imm Try.func64 rfl Try.ntmps64 cfOK (fun _ _=>by kernel_rfl) rfl (Nat.le_of_ble_eq_true rfl) ?_
  intro M0 w0
  rw [Try.results64]
  refine amGo ?_
  (simp only [xe,simprocAttr];refine ⟨_,rfl,rfl,Imp.eq ?_⟩)
  rfl
theorem el_at {m s:List (List Int)} {n i r:Nat} {row:List (List Int)} (h:RowOK m s n i r row) {k:Nat} (hk:k<row.length):elOK m n i r (row.getD k []):=h.el _ (by rw [getD_in hk];exact List.getElem_mem hk)
/-- all is right: the game and the ratio -/
def okB (m s:List (List Int)) (x:Int) (a:Int×Int):Bool := !(gmQ m s x).2 && ratioB a
theorem okB_ok {m s:List (List Int)} {x:Int} {a:Int×Int} (h:okB m s x a=true):(gmQ m s x).2=false∧ratioB a=true:=by
  unfold okB at h
  rw [Bool.and_eq_true,Bool.not_eq_true'] at h
  exact h
end Go.Proofs.Ytkcelmnbfbehbaa
