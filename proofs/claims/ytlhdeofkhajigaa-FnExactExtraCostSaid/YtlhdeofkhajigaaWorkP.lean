/- Work functions: the plain laws. Conditions: problems that are right. -/
import Derived.Test.YtlhdeofkhajigaaRU
set_option linter.all false
set_option linter.unusedSimpArgs false
set_option linter.unusedVariables false
namespace Go.Proofs.Ytlhdeofkhajigaa

/-- what a state offers a request on the way to x -/
def wOff (m s : List (List Int)) (w : List Int) (r x y : Nat) : Int := w.getD y 0 + at2 s r y + at2 m y x
def wAt (m s : List (List Int)) (w : List Int) (r x : Nat) : Int := minTo (fun y => decide (0 ≤ at2 s r y)) (wOff m s w r x) m.length
def nextM (m s : List (List Int)) (w : List Int) (r : Nat) : List Int := (List.range m.length).map fun x => wAt m s w r x
def workM (m s : List (List Int)) (x : Nat) (rs : List Int) : List Int := rs.foldl (fun w r => nextM m s w r.toNat) (m.getD x [])
structure WkOK (m : List (List Int)) (w : List Int) (B : Int) : Prop where
  len : w.length = m.length
  at_ : ∀ y, y < m.length → 0 ≤ w.getD y 0 ∧ w.getD y 0 ≤ B
theorem nextM_len (m s : List (List Int)) (w : List Int) (r : Nat) : (nextM m s w r).length = m.length := by simp [nextM]
theorem wOff_bd {m s : List (List Int)} {w : List Int} {B : Int} (hp : probB m s = true) (hw : WkOK m w B) {r x y : Nat} (hr : r < s.length) (hx : x < m.length) (hy : y < m.length) (hs : 0 ≤ at2 s r y) : 0 ≤ wOff m s w r x y ∧ wOff m s w r x y ≤ B + 119 := by
  have h1 := hw.at_ y hy
  have h2 := prob_s hp hr y hy
  have h3 := (prob_m hp hy).2 x hx
  unfold wOff
  omega
theorem wAt_ok {m s : List (List Int)} {w : List Int} {B : Int} (hp : probB m s = true) (hw : WkOK m w B) (hB : B ≤ 1000000) {r x : Nat} (hr : r < s.length) (hx : x < m.length) :
    minS (fun y => decide (0 ≤ at2 s r y)) (wOff m s w r x) m.length = wAt m s w r x ∧ 0 ≤ wAt m s w r x ∧ wAt m s w r x ≤ B + 119 := by
  have hb : ∀ y, y < m.length → decide (0 ≤ at2 s r y) = true → 0 ≤ wOff m s w r x y ∧ wOff m s w r x y ≤ B + 119 := fun y hy h => wOff_bd hp hw hr hx hy (of_decide_eq_true h)
  unfold wAt
  rcases minS_eq (n := m.length) (p := fun y => decide (0 ≤ at2 s r y)) (f := wOff m s w r x) fun y hy h => ⟨(hb y hy h).1, by have := (hb y hy h).2; omega⟩ with ⟨_, _, h3⟩ | ⟨h1, h2, _, y, h4, h5, h6⟩
  · obtain ⟨y, hy, h4⟩ := prob_any hp hr
    have := h3 y hy
    simp at this
    omega
  · have := hb y h4 h5
    exact ⟨h1, h2, by omega⟩
theorem nextM_ok {m s : List (List Int)} {w : List Int} {B : Int} (hp : probB m s = true) (hw : WkOK m w B) (hB : B ≤ 1000000) {r : Nat} (hr : r < s.length) : WkOK m (nextM m s w r) (B + 119) :=
  ⟨nextM_len m s w r, fun y hy => by
    have h := (wAt_ok hp hw hB hr hy).2
    unfold nextM
    rw [rangeMap_getD _ _ hy]
    exact h⟩
theorem workM_take {m s : List (List Int)} {x : Nat} {rs : List Int} {k : Nat} (h : k < rs.length) : workM m s x (rs.take (k + 1)) = nextM m s (workM m s x (rs.take k)) (rs.getD k 0).toNat := by
  unfold workM
  rw [take_getD h 0, List.foldl_append]
  rfl
theorem workM_ok {m s : List (List Int)} (hp : probB m s = true) {x : Nat} (hx : x < m.length) {rs : List Int} (hq : reqsB s.length rs) (hl : rs.length ≤ 1000) : ∀ k, k ≤ rs.length → WkOK m (workM m s x (rs.take k)) (99 + 119 * k)
  | 0, _ => by
    have h := prob_m hp hx
    refine ⟨h.1, fun y hy => ?_⟩
    have := h.2 y hy
    simp only [at2] at this
    simp only [workM, List.take_zero, List.foldl_nil]
    omega
  | k + 1, hk => by
    have ih := workM_ok hp hx hq hl k (by omega)
    obtain ⟨r, h1, h2⟩ := hq.at (show k < rs.length by omega)
    rw [workM_take (by omega), h1, Int.toNat_natCast]
    have h3 := nextM_ok hp ih (by omega) h2
    refine ⟨h3.len, fun y hy => ?_⟩
    have := h3.at_ y hy
    omega
/-- the least of the first k + 1 -/
def leastM (w : List Int) : Nat → Int
  | 0 => w.getD 0 0
  | k + 1 => min (leastM w k) (w.getD (k + 1) 0)
theorem leastM_bd {m : List (List Int)} {w : List Int} {B : Int} (hw : WkOK m w B) : ∀ k, k < m.length → 0 ≤ leastM w k ∧ leastM w k ≤ B
  | 0, h => hw.at_ 0 h
  | k + 1, h => by
    have h1 := leastM_bd hw k (by omega)
    have h2 := hw.at_ (k + 1) h
    simp only [leastM]
    omega
def optM (m s : List (List Int)) (x : Nat) (rs : List Int) : Int := leastM (workM m s x rs) (m.length - 1)
/-! ### the program's rows -/
def accW (f : Nat → Int) (l : List Int) : Int := l.foldl (fun a y => min a (f y.toNat)) 1073741824
theorem accW_eq (f : Nat → Int) (l : List Int) : accW f l = min 1073741824 (accM f l) := by
  unfold accW accM
  suffices h : ∀ (l : List Int) (a b : Int), l.foldl (fun a y => min a (f y.toNat)) (min a b) = min a (l.foldl (fun a y => min a (f y.toNat)) b) from h l 1073741824 1152921504606846976
  intro l
  induction l with
  | nil => intro a b; rfl
  | cons y l ih =>
    intro a b
    simp only [List.foldl_cons]
    rw [show min (min a b) (f y.toNat) = min a (min b (f y.toNat)) by omega]
    exact ih _ _
theorem accW_take {f : Nat → Int} {l : List Int} {t : Nat} (h : t < l.length) : accW f (l.take (t + 1)) = min (accW f (l.take t)) (f (l.getD t 0).toNat) := by
  unfold accW
  rw [take_getD h 0, List.foldl_append]
  rfl
def wAcc (m s : List (List Int)) (w : List Int) (r t x : Nat) : Int := accW (wOff m s w r x) ((srv s m.length r).take t)
/-- the row so far: t states are done, and the next one up to x -/
def rowW (m s : List (List Int)) (w : List Int) (r t x : Nat) : List Int := (List.range m.length).map fun j => if j < x then wAcc m s w r (t + 1) j else wAcc m s w r t j
theorem rowW_len (m s : List (List Int)) (w : List Int) (r t x : Nat) : (rowW m s w r t x).length = m.length := by simp [rowW]
theorem rowW_at {m s : List (List Int)} {w : List Int} {r t x : Nat} (h : x < m.length) : (rowW m s w r t x).getD x 0 = wAcc m s w r t x := by
  unfold rowW
  rw [rangeMap_getD _ _ h, if_neg (Nat.lt_irrefl _)]
theorem rowW_set {m s : List (List Int)} {w : List Int} {r t x z : Nat} (h : t < (srv s m.length r).length) (hz : (srv s m.length r).getD t 0 = z) : (rowW m s w r t x).set x (min (wAcc m s w r t x) (wOff m s w r x z)) = rowW m s w r t (x + 1) := by
  unfold rowW
  rw [rangeMap_set]
  refine rangeMap_congr fun j _ => ?_
  by_cases e : j = x
  · subst e
    rw [if_pos rfl, if_pos (by omega)]
    unfold wAcc
    rw [accW_take h, hz, Int.toNat_natCast]
  · rw [if_neg e]
    by_cases h1 : j < x
    · rw [if_pos h1, if_pos (by omega)]
    · rw [if_neg h1, if_neg (by omega)]
theorem rowW_first {m s : List (List Int)} {w : List Int} {r : Nat} : List.replicate m.length (1073741824 : Int) = rowW m s w r 0 0 := by
  unfold rowW
  rw [rep_range]
  exact rangeMap_congr fun j _ => rfl
theorem rowW_next {m s : List (List Int)} {w : List Int} {r t : Nat} : rowW m s w r t m.length = rowW m s w r (t + 1) 0 := by
  refine rangeMap_congr fun j hj => ?_
  rw [if_pos hj, if_neg (by omega)]
theorem rowW_all {m s : List (List Int)} {w : List Int} {B : Int} (hp : probB m s = true) (hw : WkOK m w B) (hB : B ≤ 1000000) {r : Nat} (hr : r < s.length) : rowW m s w r (srv s m.length r).length 0 = nextM m s w r := by
  refine rangeMap_congr fun j hj => ?_
  rw [if_neg (by omega)]
  unfold wAcc
  rw [List.take_length, accW_eq, accM_srv]
  have h := (wAt_ok hp hw hB hr hj).2
  unfold wAt at h ⊢
  omega
end Go.Proofs.Ytlhdeofkhajigaa
