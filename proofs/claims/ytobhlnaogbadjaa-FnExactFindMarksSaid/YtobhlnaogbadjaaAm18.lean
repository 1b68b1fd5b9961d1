/- A nil slice in a variable is a slice without elements. Conditions: none. -/
import Derived.Test.YtobhlnaogbadjaaMD
set_option linter.all false
set_option linter.unusedSimpArgs false
set_option linter.unusedVariables false
namespace Go.Proofs.Ytobhlnaogbadjaa
namespace Am
open Go Go.RowKit

theorem awp_nilT {P : Program} {cf : Cfg} {b : Base} {N : Nat} {X : St} {Q : Exit → St → Prop} {c : Code} (t : Nat) (d : Cn) (ht : X.T t = (true, .val (.slice none 0 0))) (h0 : d.len = 0) (hok : d.ok) (h : awp P cf b N c Q ⟨X.T.put (some t) (true, .sl d), X.H⟩) : awp P cf b N c Q X := fun a w ⟨φ, β, M, hR⟩ => by
  have e1 : ∀ s, (X.T.put (some t) (true, AV.sl d)) s = bif Nat.beq s t then (true, AV.sl d) else X.T s := fun s => rfl
  refine h a w ⟨φ, β, M, hR.cf, hR.le, hR.new, hR.hi, fun s => ?_, fun s => ?_, hR.own, hR.size, hR.below, hR.fix, hR.defers⟩
  · dsimp only; rw [e1]
    cases hs : Nat.beq s t with
    | false => exact hR.t s
    | true =>
      rw [Nat.eq_of_beq_eq_true hs]
      refine ⟨fun _ => ?_, fun h => by cases h⟩
      have h1 := (hR.t t).1 (by rw [ht])
      rw [ht] at h1
      have h2 : a.tmps.getD t undef = .slice none 0 0 := h1
      rw [h2]
      exact nil_rel h0 hok
  · dsimp only; rw [e1]
    cases hs : Nat.beq s t with
    | false => exact hR.lt s
    | true => exact AV.lt_one.2 rfl
end Am
end Go.Proofs.Ytobhlnaogbadjaa
