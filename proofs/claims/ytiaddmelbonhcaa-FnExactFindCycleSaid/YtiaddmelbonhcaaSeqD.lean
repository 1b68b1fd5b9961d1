/- The first good sequence, found digit by digit. No program here. -/
import Derived.Test.YtiaddmelbonhcaaSeqP
set_option linter.all false
set_option linter.unusedSimpArgs false
set_option linter.unusedVariables false
namespace Go.Proofs.Ytiaddmelbonhcaa

theorem find_congr {α : Type} {p q : α → Bool} : ∀ {l : List α}, (∀ x ∈ l, p x = q x) → l.find? p = l.find? q
  | [], _ => rfl
  | x :: l, h => by
    rw [List.find?_cons, List.find?_cons, h x List.mem_cons_self, find_congr fun y hy => h y (List.mem_cons_of_mem _ hy)]
theorem mapFind_congr {α β : Type} {p : α → Bool} {f g : α → β} {l : List α} (h : ∀ x ∈ l, f x = g x) : (l.find? p).map f = (l.find? p).map g := by
  cases e : l.find? p with
  | none => rfl
  | some x => rw [Option.map_some, Option.map_some, h x (List.mem_of_find?_eq_some e)]
theorem first_upto {b n : Nat} (hb : 1 ≤ b) (p : List Int → Bool) : ∀ m, m ≤ b → ((List.range (m * b ^ n)).find? fun k => p (sq b (n + 1) k)).map (sq b (n + 1)) = (List.range m).findSome? fun (r : Nat) => (firstS b n fun rs => p ((r : Int) :: rs)).map fun rs => (r : Int) :: rs
  | 0, _ => by simp
  | m + 1, hm => by
    have ih := first_upto (n := n) hb p m (by omega)
    rw [Nat.succ_mul, List.range_add, List.find?_append, Option.map_or, ih, List.range_succ, List.findSome?_append]
    congr 1
    have e1 : ∀ j ∈ List.range (b ^ n), sq b (n + 1) (m * b ^ n + j) = (m : Int) :: sq b n j := fun j hj => sq_cons hb (by omega) (by simpa using hj)
    rw [List.find?_map, Option.map_map]
    rw [mapFind_congr (f := sq b (n + 1) ∘ fun x => m * b ^ n + x) (g := fun j => (m : Int) :: sq b n j) fun j hj => e1 j hj]
    rw [find_congr (p := (fun k => p (sq b (n + 1) k)) ∘ fun x => m * b ^ n + x) (q := fun j => p ((m : Int) :: sq b n j)) fun j hj => by simp only [Function.comp]; rw [e1 j hj]]
    unfold firstS
    simp [Option.map_map, Function.comp_def]
theorem firstS_cons {b n : Nat} (hb : 1 ≤ b) (p : List Int → Bool) : firstS b (n + 1) p = (List.range b).findSome? fun (r : Nat) => (firstS b n fun rs => p ((r : Int) :: rs)).map fun rs => (r : Int) :: rs := by
  rw [← first_upto hb p b (Nat.le_refl _)]
  unfold firstS
  rw [Nat.pow_succ, Nat.mul_comm]
theorem firstS_zero {b : Nat} (p : List Int → Bool) : firstS b 0 p = bif p [] then some [] else none := by
  unfold firstS sq
  cases h : p [] <;> simp [h]
end Go.Proofs.Ytiaddmelbonhcaa
