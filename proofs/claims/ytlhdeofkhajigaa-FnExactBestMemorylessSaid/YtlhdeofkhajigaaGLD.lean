/- A nil slice in a variable is a slice without elements. Conditions: none. -/
import Derived.Test.YtlhdeofkhajigaaKitG
set_option linter.all false
set_option linter.unusedSimpArgs false
set_option linter.unusedVariables false
namespace Go.Proofs.Ytlhdeofkhajigaa
namespace Am
open Go Go.RowKit

theorem awp_nilT {P : Program} {cf : Cfg} {b : Base} {N : Nat} {X : St} {Q : Exit → St → Prop} {c : Code} (t : Nat) (d : Cn) (ht : X.T t = (true, .val (.slice none 0 0))) (h0 : d.len = 0) (hok : d.ok) (h : awp P cf b N c Q ⟨X.T.put (some t) (true, .sl d), X.H⟩) : awp P cf b N c Q X := fun a w ⟨φ, β, M, hR⟩ => by
  have e1 : ∀ s, (X.T.put (some t) (true, AV.sl d)) s = bif Nat.beq s t then (true, AV.sl d) else X.T s := fun s => rfl
  refine h a w ⟨φ, β, M, hR.cf, hR.le, hR.new, hR.hi, fun s => ?_, fun s => ?_, hR.own, hR.size, hR.below, hR.fix, hR.defers⟩
  · dsimp only; rw [e1]
    cases hs : Nat.beq s t with
    | false => exact hR.t s
    | true =>
      rw [Nat.eq_of_beq_eq_true hs]
      refine ⟨fun _ => ?_, fun h => by cases h⟩
      have h1 := (hR.t t).1 (by rw [ht])
      rw [ht] at h1
      have h2 : a.tmps.getD t undef = .slice none 0 0 := h1
      rw [h2]
      exact nil_rel h0 hok
  · dsimp only; rw [e1]
    cases hs : Nat.beq s t with
    | false => exact hR.lt s
    | true => exact AV.lt_one.2 rfl
/-- names are kept for later -/
theorem awp_res {P : Program} {cf : Cfg} {b : Base} {N : Nat} {X : St} {Q : Exit → St → Prop} {c : Code} (R : Nat) (h : awp P cf b N c Q ⟨X.T, X.H ++ gones R⟩) : awp P cf b N c Q X := fun a w ⟨φ, β, M, hR⟩ => by
  obtain ⟨φ', β', hR'⟩ := RA.reserve (φ := φ) R hR
  exact h a w ⟨φ', β', M, hR'⟩
/-- branches that meet: chg has turned, ss has not, and owned memory is H' -/
theorem awp_mid {P : Program} {cf : Cfg} {b : Base} {N : Nat} {X : St} {K : St → Prop} {Q : Exit → St → Prop} {c : Code} (chg : List (Nat × Bool × AV)) (ss : List Nat) (H' : List Ob) (h1 : awp P cf b N c (thenQ (fun X' => leK (chg ++ kept X.T ss) H' X' ∨ ∃ n, b.fx.length ≤ n ∧ leT n (chg ++ kept X.T ss) H' X') Q) X) (h2 : K ⟨tab (chg ++ kept X.T ss), H'⟩) : awp P cf b N c (thenQ K Q) X := fun a w hR => by
  refine Code.wp_mono (fun e a' w' ⟨X', k1, k2⟩ => ?_) (h1 a w hR)
  cases e with
  | normal =>
    rcases k1 with k1 | ⟨n, hn, k1⟩
    · exact ⟨_, h2, k2.leK k1⟩
    · exact ⟨_, h2, k2.le (k1.le hn)⟩
  | _ => exact ⟨X', k1, k2⟩
end Am
end Go.Proofs.Ytlhdeofkhajigaa
/- Steps that turn names alone, ahead of a place where branches meet. Conditions: those that each names. -/
set_option linter.all false
set_option linter.unusedSimpArgs false
set_option linter.unusedVariables false
namespace Go.Proofs.Ytlhdeofkhajigaa
namespace Am
open Go Go.RowKit
/-- what holds at X holds at Y -/
def Lead (P : Program) (cf : Cfg) (b : Base) (N : Nat) (X Y : St) : Prop := ∀ a w, R P cf b N X a w → R P cf b N Y a w
section
variable {P : Program} {cf : Cfg} {b : Base} {N : Nat} {X Y : St} {K : St → Prop} {Q : Exit → St → Prop} {c : Code}
theorem awp_meet (S0 : St) (h1 : awp P cf b N c (thenQ (fun X' => Lead P cf b N X' S0) Q) X) (h2 : K S0) : awp P cf b N c (thenQ K Q) X := fun a w hR => by
  refine Code.wp_mono (fun e a' w' ⟨X', k1, k2⟩ => ?_) (h1 a w hR)
  cases e with
  | normal => exact ⟨_, h2, k1 a' w' k2⟩
  | _ => exact ⟨X', k1, k2⟩
theorem lead_frz (i : Nat) {e : Nat} {d : Cn} (hi : X.H[i]? = some (.row e d)) (h : Lead P cf b N ⟨X.T.map (Lf.frz i d), (X.H.map (Ob.map (Lf.frz i d))).set i .gone⟩ Y) : Lead P cf b N X Y := fun a w ⟨φ, β, M, hR⟩ => by
  obtain ⟨β', M', hR'⟩ := hR.freeze hi
  exact h a w ⟨φ, β', M', hR'⟩
theorem lead_frzT (i : Nat) {es : List Nat} {d : Cn} (hi : X.H[i]? = some (.tree es d)) (h : Lead P cf b N ⟨X.T.map (Lf.frz i d), (X.H.map (Ob.map (Lf.frz i d))).set i .gone⟩ Y) : Lead P cf b N X Y := fun a w ⟨φ, β, M, hR⟩ => by
  obtain ⟨β', M', hR'⟩ := hR.freezeT hi
  exact h a w ⟨φ, β', M', hR'⟩
theorem lead_frzB (i : Nat) {cs : List Lf} {xs : List B} (hi : X.H[i]? = some (.box cs)) (hx : cs.mapM asB = some xs) (h : Lead P cf b N ⟨X.T.map (Lf.frzB i xs), (X.H.map (Ob.map (Lf.frzB i xs))).set i .gone⟩ Y) : Lead P cf b N X Y := fun a w ⟨φ, β, M, hR⟩ => by
  obtain ⟨β', M', hR'⟩ := hR.freezeB hi hx
  exact h a w ⟨φ, β', M', hR'⟩
theorem lead_mv (i n : Nat) {p : Ob} (hi : X.H[i]? = some .gone) (hn : X.H[n]? = some p) (hne : i ≠ n) (hfi : b.fx.getD i false = false) (hfn : b.fx.getD n false = false) (h : Lead P cf b N ⟨X.T.map (Lf.mv i n), ((X.H.map (Ob.map (Lf.mv i n))).set i (p.map (Lf.mv i n))).set n .gone⟩ Y) : Lead P cf b N X Y := fun a w ⟨φ, β, M, hR⟩ => by
  obtain ⟨φ', β', hR'⟩ := hR.mv hi hn hne hfi hfn
  exact h a w ⟨φ', β', M, hR'⟩
theorem lead_unf (i : Nat) {j m e : Nat} {es : List Nat} {d d' d2 : Cn} {om : Ob} (hi : X.H[i]? = some (.hole e es d j (.own m))) (hne : i ≠ m) (hm : X.H[m]? = some om) (hot : om.ownT = some (es, d2)) (hj : j < d.len) (hp : d.putS j d2 = some d') (h : Lead P cf b N ⟨X.T.map (Lf.kill m), ((X.H.map (Ob.map (Lf.kill m))).set i (.tree (e :: es) d')).set m .gone⟩ Y) : Lead P cf b N X Y := fun a w ⟨φ, β, M, hR⟩ => by
  obtain ⟨β', hR'⟩ := hR.unfocus hne hi hm hot hj hp
  exact h a w ⟨φ, β', M, hR'⟩
theorem lead_T (n : Nat) {B : List (Nat × Bool × AV)} {H' : List Ob} (hfx : b.fx.length ≤ n) (hl : leT n B H' X) : Lead P cf b N X ⟨tab B, H'⟩ := fun _ _ hR => hR.le (hl.le hfx)
theorem lead_K {B : List (Nat × Bool × AV)} {H' : List Ob} (hl : leK B H' X) : Lead P cf b N X ⟨tab B, H'⟩ := fun _ _ hR => hR.leK hl
theorem lead_0 : Lead P cf b N X X := fun _ _ h => h
theorem awp_lead (S0 : St) (h1 : Lead P cf b N X S0) (h2 : awp P cf b N c Q S0) : awp P cf b N c Q X := fun a w hR => h2 a w (h1 a w hR)
end
end Am
end Go.Proofs.Ytlhdeofkhajigaa
