/- The reference's drawn problems, on the machine. Conditions: the place is small. -/
import Derived.Test.YtcidddfjimbkbaaGreatDrU
import Derived.Test.YtcidddfjimbkbaaGreatAm18
import Derived.Test.YtcidddfjimbkbaaGreatWork
set_option linter.all false
set_option linter.unusedSimpArgs false
set_option linter.unusedVariables false
namespace Go.Proofs.YtcidddfjimbkbaaGreat
open Go Go.RowKit Am

/-- k numbers of xs -/
def amLC (xs : List Int) : Nat → Cu → Cu
  | 0, c => c
  | k + 1, c => amC xs (amLC xs k c)
def amL (xs : List Int) : Nat → Cu → List Int
  | 0, _ => []
  | k + 1, c => amL xs k c ++ [amV xs (amLC xs k c)]
theorem amL_len (xs : List Int) (c : Cu) : ∀ k, (amL xs k c).length = k
  | 0 => rfl
  | k + 1 => by simp [amL, amL_len xs c k]
theorem amLC_ok {xs : List Int} {m : Int} {c : Cu} (h : CuOK m c) : ∀ k : Nat, CuOK (m + 2 * k) (amLC xs k c)
  | 0 => h.mono (by omega)
  | k + 1 => (amC_ok (amLC_ok h k)).mono (by omega)
theorem amL_mem {xs : List Int} {m : Int} {c : Cu} (h : CuOK m c) (hx : 0 < xs.length) : ∀ (k : Nat) (v : Int), v ∈ amL xs k c → v ∈ xs
  | 0, v, hv => by simp [amL] at hv
  | k + 1, v, hv => by
    simp only [amL, List.mem_append, List.mem_singleton] at hv
    rcases hv with hv | rfl
    · exact amL_mem h hx k v hv
    · exact amV_mem (amLC_ok h k) hx
abbrev csP : List Int := [0, 0, 1, 2, 3, -1, 5]
/-- a request's costs -/
def rwN (n : Nat) (c : Cu) : Bool := decide (leastM (amL csP n c) ((amL csP n c).length - 1) < 0)
def rwD (n : Nat) (c : Cu) : Cu := if rwN n c = true then pkC 3 (amLC csP n c) else amLC csP n c
def rwB (n : Nat) (c : Cu) : Bool := (rwN n c && decide (pkV 3 (amLC csP n c) = 0)) || !reqB n (amL csP n c)
def rwV (n : Nat) (c : Cu) : List Int := if rwB n c = true then (amL csP n c).set (pkV n (rwD n c)).toNat 0 else amL csP n c
def rwC (n : Nat) (c : Cu) : Cu := if rwB n c = true then pkC n (rwD n c) else rwD n c
theorem rwV_len (n : Nat) (c : Cu) : (rwV n c).length = n := by
  unfold rwV
  split
  · rw [List.length_set, amL_len]
  · exact amL_len _ _ _
theorem rwD_ok {n : Nat} {m : Int} {c : Cu} (h : CuOK m c) : CuOK (m + (2 * n + 2)) (rwD n c) := by
  unfold rwD
  split
  · exact (pkC_ok (amLC_ok h n)).mono (by omega)
  · exact (amLC_ok h n).mono (by omega)
theorem rwC_ok {n : Nat} {m : Int} {c : Cu} (h : CuOK m c) : CuOK (m + (2 * n + 4)) (rwC n c) := by
  unfold rwC
  split
  · exact (pkC_ok (rwD_ok h)).mono (by omega)
  · exact (rwD_ok h).mono (by omega)
/-- k requests -/
def rsC (n : Nat) : Nat → Cu → Cu
  | 0, c => c
  | k + 1, c => rwC n (rsC n k c)
def rsV (n : Nat) : Nat → Cu → List (List Int)
  | 0, _ => []
  | k + 1, c => rsV n k c ++ [rwV n (rsC n k c)]
theorem rsV_len (n : Nat) (c : Cu) : ∀ k, (rsV n k c).length = k
  | 0 => rfl
  | k + 1 => by simp [rsV, rsV_len n c k]
theorem rsV_row (n : Nat) (c : Cu) : ∀ k, ∀ r ∈ rsV n k c, r.length = n
  | 0 => by simp [rsV]
  | k + 1 => fun r hr => by
    simp only [rsV, List.mem_append, List.mem_singleton] at hr
    rcases hr with hr | rfl
    · exact rsV_row n c k r hr
    · exact rwV_len _ _
theorem rsC_ok {n : Nat} {m : Int} {c : Cu} (h : CuOK m c) : ∀ k : Nat, CuOK (m + (2 * n + 4) * k) (rsC n k c)
  | 0 => h.mono (by omega)
  | k + 1 => by
    have h1 := rwC_ok (n := n) (rsC_ok (n := n) h k)
    exact h1.mono (by rw [Int.natCast_add, Int.natCast_one, Int.mul_add, Int.mul_one]; omega)
/-- the first j numbers turned to -1 -/
def stN (row : List Int) : Nat → List Int
  | 0 => row
  | j + 1 => (stN row j).set j (-1)
theorem stN_len (row : List Int) : ∀ j, (stN row j).length = row.length
  | 0 => rfl
  | j + 1 => by simp [stN, stN_len row j]
/-- what may be spoilt at the end -/
def prF (tag : Int) (k n : Nat) (m s : List (List Int)) (c : Cu) : List (List Int) × List (List Int) × Cu :=
  if tag = 0 then (m, s.set k ((s.getD k []).set 0 (amV [-2, 20, 21] c)), amC [-2, 20, 21] c)
  else if tag = 1 then (m, s.set k (s.getD k [] ++ [0]), c)
  else if tag = 2 then (m, s.set k (stN (s.getD k []) n), c)
  else if tag = 3 then (m.set 0 ((m.getD 0 []).set (n - 1) (amV [0, 99, -1] c)), s, amC [0, 99, -1] c)
  else if tag = 4 then (m, s ++ s ++ s ++ s, c)
  else if tag = 5 then (unif 5 1 5, s, c)
  else (m, s, c)
theorem prF_ok {tag : Int} {k n : Nat} {m s : List (List Int)} {c : Cu} {m0 : Int} (h : CuOK m0 c) (hm : m.length ≤ 4) (hs : s.length ≤ 4) (hs1 : 1 ≤ s.length) : (prF tag k n m s c).1.length ≤ 5 ∧ (prF tag k n m s c).2.1.length ≤ 16 ∧ 1 ≤ (prF tag k n m s c).2.1.length ∧ CuOK (m0 + 2) (prF tag k n m s c).2.2 := by
  have h2 : CuOK (m0 + 2) c := h.mono (by omega)
  unfold prF
  repeat' split
  all_goals first
    | exact ⟨by simp; omega, by simp; omega, by simp; omega, amC_ok h⟩
    | exact ⟨by simp; omega, by simp; omega, by simp; omega, h2⟩
    | exact ⟨by rw [unif_len]; omega, by simp; omega, by simp; omega, h2⟩
    | exact ⟨by dsimp only; omega, by simp; omega, by simp; omega, h2⟩
abbrev nsP : List Int := [1, 2, 2, 3, 3, 4]
abbrev ksP : List Int := [1, 2, 2, 3, 4]
def ptsP (c : Cu) : List Int := [pkV 2 c, 2 + pkV 2 (pkC 2 c), 5, 6 + pkV 3 (pkC 2 (pkC 2 c))]
/-- a metric's table -/
def mvP (n : Nat) (d : Int) (c : Cu) : List (List Int) := if pkV 2 c = 0 then lnI ((ptsP (pkC 2 c)).take n) ((ptsP (pkC 2 c)).take n).length else unif n d n
def mvC (c : Cu) : Cu := if pkV 2 c = 0 then pkC 3 (pkC 2 (pkC 2 (pkC 2 c))) else pkC 2 c
theorem mvC_ok {m : Int} {c : Cu} (h : CuOK m c) : CuOK (m + 8) (mvC c) := by
  unfold mvC
  split
  · exact (pkC_ok (pkC_ok (pkC_ok (pkC_ok h)))).mono (by omega)
  · exact (pkC_ok h).mono (by omega)
theorem ptsP_rng {m : Int} {c : Cu} (h : CuOK m c) : ∀ x ∈ ptsP c, -1000 ≤ x ∧ x ≤ 1000 := by
  have h1 := pkV_rng 2 h
  have h2 := pkV_rng 2 (pkC_ok (n := 2) h)
  have h3 := pkV_rng 3 (pkC_ok (n := 2) (pkC_ok (n := 2) h))
  have e1 := h1.2 (by omega)
  have e2 := h2.2 (by omega)
  have e3 := h3.2 (by omega)
  intro x hx
  simp only [ptsP, List.mem_cons, List.not_mem_nil, or_false] at hx
  rcases hx with rfl | rfl | rfl | rfl <;> omega
theorem mvP_shp {n : Nat} {d : Int} {c : Cu} (hn : n ≤ 4) : Shp n (mvP n d c) := by
  unfold mvP
  split
  · have h := lnI_shp ((ptsP (pkC 2 c)).take n) _ (Nat.le_refl _)
    have e : ((ptsP (pkC 2 c)).take n).length = n := by simp [ptsP]; omega
    rw [e] at h
    rw [e]
    exact h
  · exact shp_unif n d
end Go.Proofs.YtcidddfjimbkbaaGreat
