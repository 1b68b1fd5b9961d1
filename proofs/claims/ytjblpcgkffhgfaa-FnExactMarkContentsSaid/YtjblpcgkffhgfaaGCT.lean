/- Sequences of requests and chances: are they right for a problem, by the program's functions. Conditions: none. -/
import Derived.Test.YtjblpcgkffhgfaaPS
import Derived.IntWalk
import Derived.Test.YtjblpcgkffhgfaaME
import Derived.Test.YtjblpcgkffhgfaaOA
set_option linter.all false
set_option linter.unusedSimpArgs false
set_option linter.unusedVariables false
namespace Go.Proofs.Ytjblpcgkffhgfaa
open Go.RowKit

def ChIn (w:World) (v:Value) (ws:List Int) (qs:List (List Int)):Prop:=∃ u1 u2,v = .agg #[u1,u2]∧SlI w u1 ws∧SlII w u2 qs
theorem ChIn.below {w w':World} {v:Value} {ws:List Int} {qs:List (List Int)} (h:ChIn w v ws qs) (hb:Below w.heap.size w w'):ChIn w' v ws qs:=by
  obtain ⟨u1,u2,e,h1,h2⟩:=h
  exact ⟨u1,u2,e,SlI.below h1 hb,SlII.below h2 hb⟩
end Go.Proofs.Ytjblpcgkffhgfaa
/- Sequences of requests, by the reference's function. Conditions: none. -/
set_option linter.all false
set_option linter.unusedSimpArgs false
set_option linter.unusedVariables false
namespace Go.Proofs.Ytjblpcgkffhgfaa
open Go.RowKit

end Go.Proofs.Ytjblpcgkffhgfaa
/- Costs, served states, sums, and what is started, on the machine. Conditions: problems that are right. -/
set_option linter.all false
set_option linter.unusedSimpArgs false
set_option linter.unusedVariables false
namespace Go.Proofs.Ytjblpcgkffhgfaa
open Go Go.RowKit Am

/-- other arguments that stand for the same -/
theorem Does.args {P:Program} {f:Nat} {xs ys:List AV} {r:Res} (h:Does P f ys r) (k:∀ M us,ArgsRel M xs us→ArgsRel M ys us):Does P f xs r:=⟨h.1,fun M w us hm ha=>h.2 M w us hm (k M us ha)⟩
theorem eqFrac_d (a b:Int×Int):Does Try.prog 8 [frA a,frA b] (.imm (.bool (decide (a=b)))):=by
  refine spec_imm Try.func8 rfl Try.ntmps8 cfOK (fun _ _=>by kernel_rfl) rfl (Nat.le_of_ble_eq_true rfl) ?_
  intro M0 w0
  rw [Try.results8]
  refine amGo ?_
  refine awp_cond amQ (fun hc => ?_) (fun hc => ?_)
  · have hn:a≠b:=fun e=>by simp [e] at hc
    refine amGo ?_
    (simp only [xe,simprocAttr];refine ⟨_,rfl,rfl,Imp.eq ?_⟩)
    rw [decide_eq_false hn]
  · have h1:a.1=b.1:=by simpa using hc
    refine amGo ?_
    refine awp_cond amQ (fun hd => ?_) (fun hd => ?_)
    · have hn:a≠b:=fun e=>by simp [e] at hd
      refine amGo ?_
      (simp only [xe,simprocAttr];refine ⟨_,rfl,rfl,Imp.eq ?_⟩)
      rw [decide_eq_false hn]
    · have h2:a.2=b.2:=by simpa using hd
      refine amGo ?_
      (simp only [xe,simprocAttr];refine ⟨_,rfl,rfl,Imp.eq ?_⟩)
      rw [decide_eq_true (Prod.ext h1 h2)]
end Go.Proofs.Ytjblpcgkffhgfaa
