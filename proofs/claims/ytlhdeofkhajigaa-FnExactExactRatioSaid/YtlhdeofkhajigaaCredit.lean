/- Credits of games on the machine. Conditions: games that are whole. -/
import Derived.Test.YtlhdeofkhajigaaRatio
set_option linter.all false
set_option linter.unusedSimpArgs false
set_option linter.unusedVariables false
namespace Go.Proofs.Ytlhdeofkhajigaa
open Go Go.RowKit Am

abbrev four (c : List Int) : AV := .tv (.agg [.b (.val (.int .i64 (c.getD 0 0))), .b (.val (.int .i64 (c.getD 1 0))), .b (.val (.int .i64 (c.getD 2 0))), .b (.val (.int .i64 (c.getD 3 0)))])
theorem gain_d (c : List Int) (a : Int × Int) (h1 : 0 ≤ a.2 * c.getD 2 0) (h2 : a.2 * c.getD 2 0 ≤ 1000000000000000) (h3 : 0 ≤ a.1 * c.getD 3 0) (h4 : a.1 * c.getD 3 0 ≤ 1000000000000000) : Does Try.prog 64 [four c, frA a] (.imm (.int (gainC a.1 a.2 c))) := by
  refine spec_imm Try.func64 rfl Try.ntmps64 cfOK (fun _ _ => by kernel_rfl) rfl (Nat.le_of_ble_eq_true rfl) ?_
  intro M0 w0
  rw [Try.results64]
  refine amGo ?_
  (simp only [xe, simprocAttr]; refine ⟨_, rfl, rfl, Imp.eq ?_⟩)
  rfl
/-- what is known of a choice, a ratio and a table -/
structure AllowK (a : Int × Int) (tab : List Int) (i : Nat) (c : List Int) : Prop where
  fr : c.getD 0 0 = i
  to : c.getD 1 0 = (toC c : Int)
  il : i < tab.length
  tl : toC c < tab.length
  i0 : 0 ≤ tab.getD i 0 ∧ tab.getD i 0 ≤ 1000000000000000
  t0 : 0 ≤ tab.getD (toC c) 0 ∧ tab.getD (toC c) 0 ≤ 1000000000000000
  g1 : 0 ≤ a.2 * c.getD 2 0
  g2 : a.2 * c.getD 2 0 ≤ 119000000000
  g3 : 0 ≤ a.1 * c.getD 3 0
  g4 : a.1 * c.getD 3 0 ≤ 100000000000000
  r0 : 0 ≤ c.getD 3 0 ∧ c.getD 3 0 ≤ 100000
theorem tab_at {n : Nat} {tab : List Int} (h : tbB n tab = true) {j : Nat} (hj : j < n) : j < tab.length ∧ 0 ≤ tab.getD j 0 ∧ tab.getD j 0 ≤ 1000000000000000 := by
  unfold tbB at h
  rw [Bool.and_eq_true, beq_iff_eq, allIn_iff] at h
  have hj' : j < tab.length := by omega
  have := h.2 (tab.getD j 0) (by rw [getD_in hj']; exact List.getElem_mem hj')
  exact ⟨hj', this⟩
theorem allow_k {m : List (List Int)} {n i r : Nat} {c : List Int} (hc : elOK m n i r c) {a : Int × Int} (ha : ratioB a = true) {tab : List Int} (ht : tbB n tab = true) (hi : i < n) : AllowK a tab i c := by
  have h1 := ratio_ok ha
  obtain ⟨k1, k2, k3, _, _, k6, k7, k8, k9, k10, k11⟩ := gain_bd hc (num := a.1) (den := a.2) (by omega) (by omega) (by omega) (by omega)
  have h2 := tab_at ht hi
  have h3 := tab_at ht k1
  exact ⟨k3, k2, h2.1, h3.1, h2.2, h3.2, k8, k9, k10, k11, k6, k7⟩
theorem creditB_iff {g : GmT} {num den : Int} {tab : List Int} : creditB g num den tab = true ↔ tableB1 g tab = true ∧ ∀ i, i < g.ch.length → ∀ r, r < (g.ch.getD i []).length → ((g.ch.getD i []).getD r []).any (allowC num den tab i) = true := by
  unfold creditB
  rw [Bool.and_eq_true, List.all_eq_true]
  refine and_congr_right fun _ => ⟨fun h i hi r hr => ?_, fun h i hi => ?_⟩
  · have h1 := List.all_eq_true.1 (h i (List.mem_range.2 hi)) ((g.ch.getD i []).getD r []) (by rw [getD_in hr]; exact List.getElem_mem hr)
    exact h1
  · rw [List.mem_range] at hi
    refine List.all_eq_true.2 fun row hrow => ?_
    obtain ⟨r, hr, rfl⟩ := List.getElem_of_mem hrow
    have h1 := h i hi r hr
    rwa [getD_in hr] at h1
theorem creditB_no {g : GmT} {num den : Int} {tab : List Int} {i r : Nat} (hi : i < g.ch.length) (hr : r < (g.ch.getD i []).length) (h : ((g.ch.getD i []).getD r []).any (allowC num den tab i) = false) : creditB g num den tab = false := by
  rw [Bool.eq_false_iff]
  intro e
  have := (creditB_iff.1 e).2 i hi r hr
  rw [h] at this
  cases this
theorem row_at {m s : List (List Int)} {g : GmT} (hg : GmFull m s g) {i r : Nat} (hi : i < g.ch.length) (hr : r < (g.ch.getD i []).length) : RowOK m s g.list.length i r ((g.ch.getD i []).getD r []) ∧ i < g.list.length ∧ r < s.length := by
  have h1 := hg.c.len i hi
  have h2 := hg.clen
  exact ⟨hg.c.row i r hi (by omega), by omega, by omega⟩
theorem el_at {m s : List (List Int)} {n i r : Nat} {row : List (List Int)} (h : RowOK m s n i r row) {k : Nat} (hk : k < row.length) : elOK m n i r (row.getD k []) := h.el _ (by rw [getD_in hk]; exact List.getElem_mem hk)
/-- the state of the first choice that a table allows, or -1 -/
def allowAt (a : Int × Int) (tab : List Int) (i : Nat) (row : List (List Int)) : Int := if idxOf (allowC a.1 a.2 tab i) row < 0 then -1 else (row.getD (idxOf (allowC a.1 a.2 tab i) row).toNat []).getD 5 0
theorem allowAt_neg {m s : List (List Int)} {n f r : Nat} {row : List (List Int)} (h : RowOK m s n f r row) (a : Int × Int) (tab : List Int) (i : Nat) : decide (allowAt a tab i row < 0) = !row.any (allowC a.1 a.2 tab i) := by
  rw [← idxOf_any]
  unfold allowAt
  by_cases h1 : idxOf (allowC a.1 a.2 tab i) row < 0
  · rw [if_pos h1, decide_eq_false (show ¬ 0 ≤ idxOf (allowC a.1 a.2 tab i) row by omega)]
    rfl
  · obtain ⟨k, hk, e, -⟩ := idxOf_lt (Int.not_lt.1 h1)
    rw [if_neg h1, decide_eq_true (show 0 ≤ idxOf (allowC a.1 a.2 tab i) row by omega)]
    have e : idxOf (allowC a.1 a.2 tab i) row = k := e
    rw [e, Int.toNat_natCast]
    obtain ⟨k', u, x, y, h2, -⟩ := el_at h hk
    rw [h2]
    show decide ((u : Int) < 0) = false
    exact decide_eq_false (by omega)
/-- all is right: the game and the ratio -/
def okB (m s : List (List Int)) (x : Int) (a : Int × Int) : Bool := !(gmQ m s x).2 && ratioB a
def crdB (m s : List (List Int)) (x : Int) (a : Int × Int) (tab : List Int) : Bool := okB m s x a && creditB (gmQ m s x).1 a.1 a.2 tab
abbrev b2V (p q : Bool) : AV := .tup [bT p, bT q]
theorem okB_ok {m s : List (List Int)} {x : Int} {a : Int × Int} (h : okB m s x a = true) : (gmQ m s x).2 = false ∧ ratioB a = true := by
  unfold okB at h
  rw [Bool.and_eq_true, Bool.not_eq_true'] at h
  exact h
end Go.Proofs.Ytlhdeofkhajigaa
