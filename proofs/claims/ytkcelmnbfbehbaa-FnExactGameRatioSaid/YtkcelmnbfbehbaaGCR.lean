/- Choices of games on the machine: small facts. Conditions: games that are whole. -/
import Derived.Test.YtkcelmnbfbehbaaGB
import Derived.Test.YtkcelmnbfbehbaaGA
import Derived.Test.YtkcelmnbfbehbaaGFR
import Derived.Test.YtkcelmnbfbehbaaGSC
set_option linter.all false
set_option linter.unusedSimpArgs false
set_option linter.unusedVariables false
namespace Go.Proofs.Ytkcelmnbfbehbaa
open Go Go.RowKit Am

theorem map_at {α β:Type} {f:α→β} {xs:List α} {k:Nat} (h:k<xs.length) (d:α) (d':β):(xs.map f).getD k d'=f (xs.getD k d):=by simp [h]
theorem ch4_at {ch:List (List (List (List Int)))} {i:Nat} (h:i<ch.length):(ch4 ch).getD i []=(ch.getD i []).map fun r=>r.map c4:=map_at h [] []
theorem ch4_at2 {ch:List (List (List (List Int)))} {i r:Nat} (h:i<ch.length) (hr:r<(ch.getD i []).length):((ch4 ch).getD i []).getD r []=((ch.getD i []).getD r []).map c4:=by
  rw [ch4_at h]
  exact map_at hr [] []
theorem gmQ_eq {m s:List (List Int)} {y:Nat} (h:takesB m s y []=true):gmQ m s y=gm m s y:=by unfold gmQ;rw [h,Int.toNat_natCast];rfl
theorem gmQ_takes {m s:List (List Int)} {x:Int} (h:(gmQ m s x).2=false):takesB m s x []=true:=by
  cases e:takesB m s x []
  · rw [gmQ_bad e] at h;cases h
  · rfl
theorem gmQ_full {m s:List (List Int)} {x:Int} (h:(gmQ m s x).2=false):GmFull m s (gmQ m s x).1:=by
  have ht:=gmQ_takes h
  obtain ⟨hp,⟨y,rfl,hy⟩,-,-⟩:=takes_ok ht
  rw [gmQ_eq ht] at h ⊢
  exact gm_full hp hy h
theorem gameOf_g {m s:List (List Int)} {x:Int} (h:(gmQ m s x).2=false):DoesH Try.prog 25 [prA m s,.int x] [] [] (.tup [.one (.ptr 0 0),.one (.b (.val (.bool true)))]) [.box [.own 1,.own 2],.row 74 (.k 2 (gmQ m s x).1.list),.row 78 (.kii 6 (gmQ m s x).1.ch)]:=by
  have:=gameOf_h m s x
  unfold gmR gmO at this
  rw [h] at this
  exact this
theorem gameOf_b {m s:List (List Int)} {x:Int} (h:(gmQ m s x).2=true):DoesH Try.prog 25 [prA m s,.int x] [] [] (.tup [.one (.b (.val (.pointer none))),.one (.b (.val (.bool false)))]) []:=by
  have:=gameOf_h m s x
  unfold gmR gmO at this
  rw [h] at this
  exact this
end Go.Proofs.Ytkcelmnbfbehbaa
/- Ratios, and lists of numbers for positions, on the machine. Conditions: games that are whole. -/
set_option linter.all false
set_option linter.unusedSimpArgs false
set_option linter.unusedVariables false
namespace Go.Proofs.Ytkcelmnbfbehbaa
open Go Go.RowKit Am

abbrev gA (g:GmT) (b:Bool):AV := .tv (.agg [.b (.sl (.k 2 g.list)),.b (.sl (.kii 4 (ch4 g.ch))),.b (.val (.bool b))])
abbrev gI (g:GmT):AV := .lf (.ip [.sl (.k 2 g.list),.sl (.kii 6 g.ch)] 0)
end Go.Proofs.Ytkcelmnbfbehbaa
/- Credits of games on the machine. Conditions: games that are whole. -/
set_option linter.all false
set_option linter.unusedSimpArgs false
set_option linter.unusedVariables false
namespace Go.Proofs.Ytkcelmnbfbehbaa
open Go Go.RowKit Am

abbrev four (c:List Int):AV := .tv (.agg [.b (.val (.int .i64 (c.getD 0 0))),.b (.val (.int .i64 (c.getD 1 0))),.b (.val (.int .i64 (c.getD 2 0))),.b (.val (.int .i64 (c.getD 3 0)))])
theorem l10Of_d (a:Int×Int):Does Try.prog 22 [frA a] (.imm (frA (a.2,a.1))):=by
  refine spec_imm Try.func22 rfl Try.ntmps22 cfOK (fun _ _=>by kernel_rfl) rfl (Nat.le_of_ble_eq_true rfl) ?_
  intro M0 w0
  rw [Try.results22]
  refine amGo ?_
  (simp only [xec,simprocAttr];refine ⟨_,⟨amK,rfl⟩,rfl,Imp.eq ?_⟩)
  rfl
theorem l10Gain_d (c:List Int) (a:Int×Int) (h1:0≤a.2*c.getD 2 0) (h2:a.2*c.getD 2 0≤1000000000000000) (h3:0≤a.1*c.getD 3 0) (h4:a.1*c.getD 3 0≤1000000000000000):Does Try.prog 64 [frA (a.2,a.1),four (c4 c)] (.imm (.int (gainC a.1 a.2 c))):=by
  have e1:(c4 c).getD 2 0=c.getD 2 0:=rfl
  have e2:(c4 c).getD 3 0=c.getD 3 0:=rfl
  rw [← e1] at h1 h2
  rw [← e2] at h3 h4
  refine spec_imm Try.func64 rfl Try.ntmps64 cfOK (fun _ _=>by kernel_rfl) rfl (Nat.le_of_ble_eq_true rfl) ?_
  intro M0 w0
  rw [Try.results64]
  refine amGo ?_
  (simp only [xe,simprocAttr];refine ⟨_,rfl,rfl,Imp.eq ?_⟩)
  rfl
theorem el_at {m s:List (List Int)} {n i r:Nat} {row:List (List Int)} (h:RowOK m s n i r row) {k:Nat} (hk:k<row.length):elOK m n i r (row.getD k []):=h.el _ (by rw [getD_in hk];exact List.getElem_mem hk)
end Go.Proofs.Ytkcelmnbfbehbaa
