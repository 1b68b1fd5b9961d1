/- Determinants, systems and their solutions for small square matrices: the plain laws. Conditions: those that each names. -/
import Derived.Test.YtpihfeganpdjiaaListP
import Derived.Test.YtpihfeganpdjiaaTurnP
import Derived.Test.YtpihfeganpdjiaaME
import Derived.Test.YtpihfeganpdjiaaKitG
set_option linter.all false
set_option linter.unusedSimpArgs false
set_option linter.unusedVariables false
namespace Go.Proofs.Ytpihfeganpdjiaa

/-! ### sums and determinants -/
def smD (f : Nat → Int) : Nat → Int
  | 0 => 0
  | n + 1 => smD f n + f n
theorem smD_congr {f g : Nat → Int} : ∀ {n}, (∀ i, i < n → f i = g i) → smD f n = smD g n
  | 0, _ => rfl
  | n + 1, h => by
    show smD f n + f n = smD g n + g n
    rw [smD_congr fun i hi => h i (by omega), h n (by omega)]
theorem smD_abs {f : Nat → Int} {B : Int} : ∀ {n}, (∀ i, i < n → -B ≤ f i ∧ f i ≤ B) → -(n * B) ≤ smD f n ∧ smD f n ≤ n * B
  | 0, _ => by simp [smD]
  | n + 1, h => by
    have h1 := smD_abs (n := n) fun i hi => h i (by omega)
    have h2 := h n (by omega)
    have e : ((n + 1 : Nat) : Int) * B = n * B + B := by rw [Int.natCast_add, Int.add_mul]; simp
    rw [e]
    show _ ≤ smD f n + f n ∧ smD f n + f n ≤ _
    omega
def sgn (j : Nat) : Int := 1 - 2 * ((j % 2 : Nat) : Int)
theorem sgn_next (j : Nat) : sgn (j + 1) = -sgn j := by unfold sgn; omega
theorem sgn_bd (j : Nat) : -1 ≤ sgn j ∧ sgn j ≤ 1 := by unfold sgn; omega
def dropC (r : List Int) (j : Nat) : List Int := r.take j ++ r.drop (j + 1)
def minorL (m : List (List Int)) (j : Nat) : List (List Int) := (m.drop 1).map fun r => dropC r j
def detL : Nat → List (List Int) → Int
  | 0, _ => 1
  | n + 1, m => smD (fun j => sgn j * (m.getD 0 []).getD j 0 * detL n (minorL m j)) (n + 1)
/-- a square matrix with small entries -/
structure SqM (n : Nat) (B : Int) (m : List (List Int)) : Prop where
  len : m.length = n
  row : ∀ r ∈ m, r.length = n
  bd : ∀ r ∈ m, ∀ x ∈ r, -B ≤ x ∧ x ≤ B
theorem dropC_len {r : List Int} {j n : Nat} (h : r.length = n + 1) (hj : j < n + 1) : (dropC r j).length = n := by
  unfold dropC
  rw [List.length_append, List.length_take, List.length_drop]
  omega
theorem minor_sq {n : Nat} {B : Int} {m : List (List Int)} (h : SqM (n + 1) B m) {j : Nat} (hj : j < n + 1) : SqM n B (minorL m j) := by
  refine ⟨by unfold minorL; rw [List.length_map, List.length_drop, h.len]; omega, fun r hr => ?_, fun r hr x hx => ?_⟩
  · obtain ⟨r', hr', rfl⟩ := List.mem_map.1 hr
    exact dropC_len (h.row r' (List.mem_of_mem_drop hr')) hj
  · obtain ⟨r', hr', rfl⟩ := List.mem_map.1 hr
    unfold dropC at hx
    rcases List.mem_append.1 hx with h1 | h1
    · exact h.bd r' (List.mem_of_mem_drop hr') x (List.mem_of_mem_take h1)
    · exact h.bd r' (List.mem_of_mem_drop hr') x (List.mem_of_mem_drop h1)
def dBd (B : Int) : Nat → Int
  | 0 => 1
  | n + 1 => (n + 1 : Nat) * (B * dBd B n)
theorem mul_abs {a b A B : Int} (ha : -A ≤ a ∧ a ≤ A) (hb : -B ≤ b ∧ b ≤ B) : -(A * B) ≤ a * b ∧ a * b ≤ A * B := by
  have hA : 0 ≤ A := by omega
  have hB : 0 ≤ B := by omega
  have key : ∀ x y : Int, 0 ≤ x → x ≤ A → 0 ≤ y → y ≤ B → 0 ≤ x * y ∧ x * y ≤ A * B := fun x y h1 h2 h3 h4 => ⟨Int.mul_nonneg h1 h3, Int.mul_le_mul h2 h4 h3 hA⟩
  rcases Int.le_total 0 a with h1 | h1 <;> rcases Int.le_total 0 b with h2 | h2
  · have := key a b h1 ha.2 h2 hb.2; omega
  · have := key a (-b) h1 ha.2 (by omega) (by omega); rw [Int.mul_neg] at this; omega
  · have := key (-a) b (by omega) (by omega) h2 hb.2; rw [Int.neg_mul] at this; omega
  · have := key (-a) (-b) (by omega) (by omega) (by omega) (by omega); rw [Int.neg_mul_neg] at this; omega
theorem ent_bd {n : Nat} {B : Int} {m : List (List Int)} (hB : 0 ≤ B) (h : SqM n B m) (i j : Nat) : -B ≤ (m.getD i []).getD j 0 ∧ (m.getD i []).getD j 0 ≤ B := by
  rw [List.getD_eq_getElem?_getD, List.getD_eq_getElem?_getD]
  cases h1 : m[i]? with
  | none => simp; omega
  | some r =>
    rw [Option.getD_some]
    cases h2 : r[j]? with
    | none => simp; omega
    | some x => exact h.bd r (List.mem_of_getElem? h1) x (List.mem_of_getElem? h2)
theorem det_bd {B : Int} (hB : 0 ≤ B) : ∀ {n : Nat} {m : List (List Int)}, SqM n B m → -(dBd B n) ≤ detL n m ∧ detL n m ≤ dBd B n
  | 0, m, _ => by show -1 ≤ (1 : Int) ∧ (1 : Int) ≤ 1; decide
  | n + 1, m, h => smD_abs fun j hj => by
    have h1 := ent_bd hB h 0 j
    have h2 := det_bd hB (minor_sq h hj)
    have h3 := mul_abs (A := 1) (sgn_bd j) h1
    rw [Int.one_mul] at h3
    exact mul_abs h3 h2
theorem dBd_40 : dBd 80 0 = 1 ∧ dBd 80 1 = 80 ∧ dBd 80 2 = 12800 ∧ dBd 80 3 = 3072000 ∧ dBd 80 4 = 983040000 := by decide
theorem dBd_le {n : Nat} (h : n ≤ 4) : 0 ≤ dBd 80 n ∧ dBd 80 n ≤ 983040000 := by
  match n, h with
  | 0, _ => decide
  | 1, _ => decide
  | 2, _ => decide
  | 3, _ => decide
  | 4, _ => decide
/-! ### the systems -/
def at2L (m : List (List Int)) (i j : Nat) : Int := (m.getD i []).getD j 0
/-- the program's equations for a square matrix -/
def sysI (n : Nat) (m : List (List Int)) : List (List Int) := ((List.range (n - 1)).map fun j => (List.range n).map fun i => at2L m i (j + 1) - at2L m i 0) ++ [List.replicate n 1]
def withI (n i : Nat) (s : List (List Int)) : List (List Int) := (List.range n).map fun k => (s.getD k []).set i (if k + 1 = n then 1 else 0)
/-- the reference's -/
def sysS (n : Nat) (m : List (List Int)) : List (List Int) := ((List.range n).map fun k => colOf m k ++ [-1]) ++ [List.replicate n 1 ++ [0]]
def solI (n : Nat) (m : List (List Int)) (i : Nat) : Int := detL n (withI n i (sysI n m))
def solS (n : Nat) (m : List (List Int)) (i : Nat) : Int := detL (n + 1) (withI (n + 1) i (sysS n m))
def sgE (n : Nat) : Int := if n = 2 then -1 else 1
theorem mat1 {m : List (List Int)} (h1 : m.length = 1) (h2 : ∀ r ∈ m, r.length = 1) : ∃ a, m = [[a]] := by
  match m, h1, h2 with
  | [r], _, h2 =>
    match r, h2 r (by simp) with
    | [a], _ => exact ⟨a, rfl⟩
theorem mat2 {m : List (List Int)} (h1 : m.length = 2) (h2 : ∀ r ∈ m, r.length = 2) : ∃ a b c d, m = [[a, b], [c, d]] := by
  match m, h1, h2 with
  | [r, s], _, h2 =>
    match r, s, h2 r (by simp), h2 s (by simp) with
    | [a, b], [c, d], _, _ => exact ⟨a, b, c, d, rfl⟩
theorem mat3 {m : List (List Int)} (h1 : m.length = 3) (h2 : ∀ r ∈ m, r.length = 3) : ∃ a b c d e f g h i, m = [[a, b, c], [d, e, f], [g, h, i]] := by
  match m, h1, h2 with
  | [r, s, t], _, h2 =>
    match r, s, t, h2 r (by simp), h2 s (by simp), h2 t (by simp) with
    | [a, b, c], [d, e, f], [g, h, i], _, _, _ => exact ⟨a, b, c, d, e, f, g, h, i, rfl⟩
/-! ### what the two systems have to do with each other -/
theorem den_eq {n : Nat} {m : List (List Int)} (hn : 1 ≤ n) (hn3 : n ≤ 3) (h1 : m.length = n) (h2 : ∀ r ∈ m, r.length = n) : detL (n + 1) (sysS n m) = sgE n * detL n (sysI n m) := by
  match n, hn, hn3 with
  | 1, _, _ =>
    obtain ⟨a, rfl⟩ := mat1 h1 h2
    show detL 2 [[a, -1], [1, 0]] = 1 * detL 1 [[1]]
    simp [detL, smD, sgn, minorL, dropC]
  | 2, _, _ =>
    obtain ⟨a, b, c, d, rfl⟩ := mat2 h1 h2
    show detL 3 [[a, c, -1], [b, d, -1], [1, 1, 0]] = -1 * detL 2 [[b - a, d - c], [1, 1]]
    simp [detL, smD, sgn, minorL, dropC]
    grind
  | 3, _, _ =>
    obtain ⟨a, b, c, d, e, f, g, h, i, rfl⟩ := mat3 h1 h2
    show detL 4 [[a, d, g, -1], [b, e, h, -1], [c, f, i, -1], [1, 1, 1, 0]] = 1 * detL 3 [[b - a, e - d, h - g], [c - a, f - d, i - g], [1, 1, 1]]
    simp [detL, smD, sgn, minorL, dropC]
    grind
theorem sol_eq {n : Nat} {m : List (List Int)} (hn : 1 ≤ n) (hn3 : n ≤ 3) (h1 : m.length = n) (h2 : ∀ r ∈ m, r.length = n) (k : Nat) (hk : k < n) : solS n m k = sgE n * solI n m k := by
  match n, hn, hn3 with
  | 1, _, _ =>
    obtain ⟨a, rfl⟩ := mat1 h1 h2
    obtain rfl : k = 0 := by omega
    show detL 2 [[0, -1], [1, 0]] = 1 * detL 1 [[1]]
    simp [detL, smD, sgn, minorL, dropC]
  | 2, _, _ =>
    obtain ⟨a, b, c, d, rfl⟩ := mat2 h1 h2
    match k, hk with
    | 0, _ => show detL 3 [[0, c, -1], [0, d, -1], [1, 1, 0]] = -1 * detL 2 [[0, d - c], [1, 1]]; simp [detL, smD, sgn, minorL, dropC]; grind
    | 1, _ => show detL 3 [[a, 0, -1], [b, 0, -1], [1, 1, 0]] = -1 * detL 2 [[b - a, 0], [1, 1]]; simp [detL, smD, sgn, minorL, dropC]; grind
  | 3, _, _ =>
    obtain ⟨a, b, c, d, e, f, g, h, i, rfl⟩ := mat3 h1 h2
    match k, hk with
    | 0, _ => show detL 4 [[0, d, g, -1], [0, e, h, -1], [0, f, i, -1], [1, 1, 1, 0]] = 1 * detL 3 [[0, e - d, h - g], [0, f - d, i - g], [1, 1, 1]]; simp [detL, smD, sgn, minorL, dropC]; grind
    | 1, _ => show detL 4 [[a, 0, g, -1], [b, 0, h, -1], [c, 0, i, -1], [1, 1, 1, 0]] = 1 * detL 3 [[b - a, 0, h - g], [c - a, 0, i - g], [1, 1, 1]]; simp [detL, smD, sgn, minorL, dropC]; grind
    | 2, _ => show detL 4 [[a, d, 0, -1], [b, e, 0, -1], [c, f, 0, -1], [1, 1, 1, 0]] = 1 * detL 3 [[b - a, e - d, 0], [c - a, f - d, 0], [1, 1, 1]]; simp [detL, smD, sgn, minorL, dropC]; grind
theorem sum_eq {n : Nat} {m : List (List Int)} (hn : 1 ≤ n) (hn3 : n ≤ 3) (h1 : m.length = n) (h2 : ∀ r ∈ m, r.length = n) : smD (solI n m) n = detL n (sysI n m) := by
  match n, hn, hn3 with
  | 1, _, _ =>
    obtain ⟨a, rfl⟩ := mat1 h1 h2
    show 0 + detL 1 [[1]] = detL 1 [[1]]
    omega
  | 2, _, _ =>
    obtain ⟨a, b, c, d, rfl⟩ := mat2 h1 h2
    show 0 + detL 2 [[0, d - c], [1, 1]] + detL 2 [[b - a, 0], [1, 1]] = detL 2 [[b - a, d - c], [1, 1]]
    simp [detL, smD, sgn, minorL, dropC]
    grind
  | 3, _, _ =>
    obtain ⟨a, b, c, d, e, f, g, h, i, rfl⟩ := mat3 h1 h2
    show 0 + detL 3 [[0, e - d, h - g], [0, f - d, i - g], [1, 1, 1]] + detL 3 [[b - a, 0, h - g], [c - a, 0, i - g], [1, 1, 1]] + detL 3 [[b - a, e - d, 0], [c - a, f - d, 0], [1, 1, 1]] = detL 3 [[b - a, e - d, h - g], [c - a, f - d, i - g], [1, 1, 1]]
    simp [detL, smD, sgn, minorL, dropC]
    grind
theorem val_eq {n : Nat} {m : List (List Int)} (hn : 1 ≤ n) (hn3 : n ≤ 3) (h1 : m.length = n) (h2 : ∀ r ∈ m, r.length = n) (k : Nat) (hk : k < n) : smD (fun i => at2L m i k * solI n m i) n = sgE n * solS n m n := by
  match n, hn, hn3 with
  | 1, _, _ =>
    obtain ⟨a, rfl⟩ := mat1 h1 h2
    obtain rfl : k = 0 := by omega
    show 0 + a * detL 1 [[1]] = 1 * detL 2 [[a, 0], [1, 1]]
    simp [detL, smD, sgn, minorL, dropC]
  | 2, _, _ =>
    obtain ⟨a, b, c, d, rfl⟩ := mat2 h1 h2
    match k, hk with
    | 0, _ => show 0 + a * detL 2 [[0, d - c], [1, 1]] + c * detL 2 [[b - a, 0], [1, 1]] = -1 * detL 3 [[a, c, 0], [b, d, 0], [1, 1, 1]]; simp [detL, smD, sgn, minorL, dropC]; grind
    | 1, _ => show 0 + b * detL 2 [[0, d - c], [1, 1]] + d * detL 2 [[b - a, 0], [1, 1]] = -1 * detL 3 [[a, c, 0], [b, d, 0], [1, 1, 1]]; simp [detL, smD, sgn, minorL, dropC]; grind
  | 3, _, _ =>
    obtain ⟨a, b, c, d, e, f, g, h, i, rfl⟩ := mat3 h1 h2
    match k, hk with
    | 0, _ => show 0 + a * detL 3 [[0, e - d, h - g], [0, f - d, i - g], [1, 1, 1]] + d * detL 3 [[b - a, 0, h - g], [c - a, 0, i - g], [1, 1, 1]] + g * detL 3 [[b - a, e - d, 0], [c - a, f - d, 0], [1, 1, 1]] = 1 * detL 4 [[a, d, g, 0], [b, e, h, 0], [c, f, i, 0], [1, 1, 1, 1]]; simp [detL, smD, sgn, minorL, dropC]; grind
    | 1, _ => show 0 + b * detL 3 [[0, e - d, h - g], [0, f - d, i - g], [1, 1, 1]] + e * detL 3 [[b - a, 0, h - g], [c - a, 0, i - g], [1, 1, 1]] + h * detL 3 [[b - a, e - d, 0], [c - a, f - d, 0], [1, 1, 1]] = 1 * detL 4 [[a, d, g, 0], [b, e, h, 0], [c, f, i, 0], [1, 1, 1, 1]]; simp [detL, smD, sgn, minorL, dropC]; grind
    | 2, _ => show 0 + c * detL 3 [[0, e - d, h - g], [0, f - d, i - g], [1, 1, 1]] + f * detL 3 [[b - a, 0, h - g], [c - a, 0, i - g], [1, 1, 1]] + i * detL 3 [[b - a, e - d, 0], [c - a, f - d, 0], [1, 1, 1]] = 1 * detL 4 [[a, d, g, 0], [b, e, h, 0], [c, f, i, 0], [1, 1, 1, 1]]; simp [detL, smD, sgn, minorL, dropC]; grind
end Go.Proofs.Ytpihfeganpdjiaa
/- Determinants and solved systems, on the machine: the reference's. Conditions: small square matrices. -/
set_option linter.all false
set_option linter.unusedSimpArgs false
set_option linter.unusedVariables false
namespace Go.Proofs.Ytpihfeganpdjiaa
open Go Go.RowKit Am

theorem getD_inQ {α : Type} {xs : List α} {d : α} {k : Nat} (h : k < xs.length) : xs.getD k d = xs[k] := by simp [h]
theorem l1OwnQ_h (l : List Int) (hn : l.length ≤ 1000) : DoesH Try.prog 53 [.sl (.ints l)] [] [] (.lf (.own 0)) [.row 3 (.ints l)] := by
  refine spec_hB Try.func53 rfl Try.ntmps53 cfOK (fun _ _ => by kernel_rfl) rfl rfl rfl ?_
  intro M0 w0 S φ0
  rw [Try.results53]
  (repeat (first | refine g1 ?_ | refine g2 ?_ | ((first | refine g3 ?_ | refine g4 ?_ | refine g5 ?_); try simp only [xq, simprocAttr]) | ((first | refine g6 ?_ | refine g7 ?_); simp only [xr, simprocAttr]; repeat (guard_target =~ _ ∧ _; refine ⟨by first | trivial | (unfold I64; omega) | omega | (simp <;> omega) | (intros; omega), ?_⟩))))
  (simp only [ends_normal, ends_ret]; refine retH_1 [0] rfl ⟨rfl, trivial⟩ rfl rfl rfl rfl rfl ?_; try rfl)
theorem l4Without_d (r : List Int) (j : Nat) (hj : j < r.length) (hr : r.length ≤ 1000) : Does Try.prog 66 [.sl (.ints r), .int j] (.imm (.sl (.ints (dropC r j)))) := by
  have h1 : ((r.take j).drop 0).length = j := by rw [List.length_drop, List.length_take]; omega
  have h2 : ((r.take r.length).drop ((j : Int) + 1).toNat).length = r.length - (j + 1) := by rw [List.length_drop, List.length_take]; omega
  refine spec_imm Try.func66 rfl Try.ntmps66 cfOK (fun _ _ => by kernel_rfl) rfl (Nat.le_of_ble_eq_true rfl) ?_
  intro M0 w0
  rw [Try.results66]
  (repeat (first | refine g1 ?_ | refine g2 ?_ | ((first | refine g3 ?_ | refine g4 ?_ | refine g5 ?_); try simp only [xq, simprocAttr]) | ((first | refine g6 ?_ | refine g7 ?_); simp only [xr, simprocAttr]; repeat (guard_target =~ _ ∧ _; refine ⟨by first | trivial | (unfold I64; omega) | omega | (simp <;> omega) | (intros; omega), ?_⟩))))
  ((repeat (first | refine g1 ?_ | refine g2 ?_ | ((first | refine g3 ?_ | refine g4 ?_); try simp only [xq, simprocAttr]))); refine awp_anyG 2 [(3, [0]), (8, [1, 0])] [0, 1] [(3, []), (8, []), (9, [0])] ?_; simp (maxSteps := 3000000) only [xg, xr, simprocAttr]; repeat (guard_target =~ _ ∧ _; refine ⟨by first | (guard_target =~ _ = _; rfl) | (guard_target =~ (_ : Int) ≤ _; omega) | (first | trivial | (unfold I64; omega) | omega | (simp <;> omega) | (intros; omega)), ?_⟩))
  (refine .inr ⟨_, _, callG_b (l1OwnQ_h ((r.take j).drop 0) (by omega)) rfl rfl rfl rfl rfl rfl, ?_⟩; (try simp (maxSteps := 3000000) only [xg, xr, simprocAttr]); repeat (guard_target =~ _ ∧ _; refine ⟨by first | (guard_target =~ _ = _; rfl) | (guard_target =~ (_ : Int) ≤ _; omega) | (first | trivial | (unfold I64; omega) | omega | (simp <;> omega) | (intros; omega)), ?_⟩))
  (simp (maxSteps := 3000000) only [xg, xr, simprocAttr]; repeat (guard_target =~ _ ∧ _; refine ⟨by first | (guard_target =~ _ = _; rfl) | (guard_target =~ (_ : Int) ≤ _; omega) | (first | trivial | (unfold I64; omega) | omega | (simp <;> omega) | (intros; omega)), ?_⟩))
  (repeat (first | refine g1 ?_ | refine g2 ?_ | ((first | refine g3 ?_ | refine g4 ?_); try simp only [xq, simprocAttr]) | ((first | refine g6 ?_ | refine g7 ?_); simp only [xr, simprocAttr]; repeat (guard_target =~ _ ∧ _; refine ⟨by first | trivial | (unfold I64; omega) | omega | (simp <;> omega) | (intros; omega), ?_⟩))))
  (refine awp_frz 1 rfl ?_; simp only [xz, simprocAttr])
  (repeat (first | refine g1 ?_ | refine g2 ?_ | ((first | refine g3 ?_ | refine g4 ?_ | refine g5 ?_); try simp only [xq, simprocAttr]) | ((first | refine g6 ?_ | refine g7 ?_); simp only [xr, simprocAttr]; repeat (guard_target =~ _ ∧ _; refine ⟨by first | trivial | (unfold I64; omega) | omega | (simp <;> omega) | (intros; omega), ?_⟩))))
  (simp only [xe, simprocAttr]; refine ⟨_, rfl, rfl, Imp.eq ?_⟩)
  rw [show ((j : Int) + 1).toNat = j + 1 by omega, List.take_length, List.drop_zero]
  rfl
theorem l4With_d (r : List Int) (j : Nat) (x : Int) (hj : j < r.length) (hr : r.length ≤ 1000) : Does Try.prog 34 [.sl (.ints r), .int j, .int x] (.imm (.sl (.ints (r.set j x)))) := by
  refine spec_imm Try.func34 rfl Try.ntmps34 cfOK (fun _ _ => by kernel_rfl) rfl (Nat.le_of_ble_eq_true rfl) ?_
  intro M0 w0
  rw [Try.results34]
  (repeat (first | refine g1 ?_ | refine g2 ?_ | ((first | refine g3 ?_ | refine g4 ?_ | refine g5 ?_); try simp only [xq, simprocAttr]) | ((first | refine g6 ?_ | refine g7 ?_); simp only [xr, simprocAttr]; repeat (guard_target =~ _ ∧ _; refine ⟨by first | trivial | (unfold I64; omega) | omega | (simp <;> omega) | (intros; omega), ?_⟩))))
  (refine .inr (callW_b (l1OwnQ_h r hr) rfl rfl rfl rfl rfl rfl rfl ?_); (try simp only [xr, simprocAttr]); repeat (guard_target =~ _ ∧ _; refine ⟨by first | trivial | (unfold I64; omega) | omega | (simp <;> omega) | (intros; omega), ?_⟩))
  (repeat (first | refine g1 ?_ | refine g2 ?_ | ((first | refine g3 ?_ | refine g4 ?_); try simp only [xq, simprocAttr]) | ((first | refine g6 ?_ | refine g7 ?_); simp only [xr, simprocAttr]; repeat (guard_target =~ _ ∧ _; refine ⟨by first | trivial | (unfold I64; omega) | omega | (simp <;> omega) | (intros; omega), ?_⟩))))
  (refine awp_frz 0 rfl ?_; simp only [xz, simprocAttr])
  (repeat (first | refine g1 ?_ | refine g2 ?_ | ((first | refine g3 ?_ | refine g4 ?_ | refine g5 ?_); try simp only [xq, simprocAttr]) | ((first | refine g6 ?_ | refine g7 ?_); simp only [xr, simprocAttr]; repeat (guard_target =~ _ ∧ _; refine ⟨by first | trivial | (unfold I64; omega) | omega | (simp <;> omega) | (intros; omega), ?_⟩))))
  (simp only [xe, simprocAttr]; refine ⟨_, rfl, rfl, Imp.eq ?_⟩)
  rfl
theorem minor_take {m : List (List Int)} {j i : Nat} (h : i + 1 < m.length) : (minorL m j).take (i + 1) = (minorL m j).take i ++ [dropC (m.getD (i + 1) []) j] := by
  have hl : (minorL m j).length = m.length - 1 := by simp [minorL]
  rw [take_getD (by omega) [], getD_inQ (by omega)]
  congr 2
  simp only [minorL, List.getElem_map, List.getElem_drop]
  rw [getD_inQ h]
  congr 1
  congr 1
  omega
theorem l11Minor_d {n : Nat} {B : Int} (m : List (List Int)) (j : Nat) (h : SqM (n + 1) B m) (hj : j < n + 1) (hn : n ≤ 100) : Does Try.prog 54 [.sl (.ii m), .int j] (.imm (.sl (.ii (minorL m j)))) := by
  have hml := h.len
  have hl : (minorL m j).length = n := (minor_sq h hj).len
  refine spec_imm Try.func54 rfl Try.ntmps54 cfOK (fun _ _ => by kernel_rfl) rfl (Nat.le_of_ble_eq_true rfl) ?_
  intro M0 w0
  rw [Try.results54]
  (repeat (first | refine g1 ?_ | refine g2 ?_ | ((first | refine g3 ?_ | refine g4 ?_ | refine g5 ?_); try simp only [xq, simprocAttr]) | ((first | refine g6 ?_ | refine g7 ?_); simp only [xr, simprocAttr]; repeat (guard_target =~ _ ∧ _; refine ⟨by first | trivial | (unfold I64; omega) | omega | (simp <;> omega) | (intros; omega), ?_⟩))))
  refine awp_rounds (α := Nat) (fun i => [(6, true, .int ((i : Int) + 1))]) [0, 1, 5] (fun i => [.row 36 (.ii ((minorL m j).take i))]) (fun i => i ≤ n) (fun i => n - i) 0 (by ((try simp only [xk]); (repeat (refine leK_cons ?_ ?_; first | (focus (first | rfl | (simp only [xr, simprocAttr]; done) | (simp only [xr, simprocAttr]; refine int_eq1 ?_; first | trivial | (unfold I64; omega) | omega | (simp <;> omega) | (intros; omega)))) | rotate_left)); (refine leK_nil ?_; exact (by rfl)); (all_goals (try (simp only [xr, simprocAttr]; try refine int_eq1 ?_))))) (Nat.zero_le _) fun i hi => ?_
  have htl : ((minorL m j).take i).length ≤ i := by rw [List.length_take]; omega
  simp only [xr, simprocAttr]
  (repeat (first | refine g1 ?_ | refine g2 ?_ | ((first | refine g3 ?_ | refine g4 ?_ | refine g5 ?_); try simp only [xq, simprocAttr]) | ((first | refine g6 ?_ | refine g7 ?_); simp only [xr, simprocAttr]; repeat (guard_target =~ _ ∧ _; refine ⟨by first | trivial | (unfold I64; omega) | omega | (simp <;> omega) | (intros; omega), ?_⟩))))
  refine awp_cond (by first | rfl | (simp only [xr, simprocAttr]; rfl)) (fun hc => ?_) (fun hc => ?_)
  · have hc := of_decide_eq_true hc
    have hi' : i < n := by omega
    have hrl : ((m.getD (i + 1) []).length) = n + 1 := by rw [getD_inQ (by omega)]; exact h.row _ (List.getElem_mem _)
    have hrl2 : ((m.getD ((i : Int) + 1).toNat []).length) = n + 1 := by rw [show ((i : Int) + 1).toNat = i + 1 by omega]; exact hrl
    have hnx := minor_take (m := m) (j := j) (i := i) (by omega)
    (repeat (first | refine g1 ?_ | refine g2 ?_ | ((first | refine g3 ?_ | refine g4 ?_ | refine g5 ?_); try simp only [xq, simprocAttr]) | ((first | refine g6 ?_ | refine g7 ?_); simp only [xr, simprocAttr]; repeat (guard_target =~ _ ∧ _; refine ⟨by first | trivial | (unfold I64; omega) | omega | (simp <;> omega) | (intros; omega), ?_⟩))))
    rw [show ((i : Int) + 1).toNat = i + 1 by omega]
    ((try refine Or.inl ?_); refine ⟨_, (l4Without_d (m.getD (i + 1) []) j (by omega) (by omega)), .inr (by and_intros <;> first | rfl | (simp; done)), ?_⟩; (try simp only [xr, simprocAttr]); repeat (guard_target =~ _ ∧ _; refine ⟨by first | trivial | (unfold I64; omega) | omega | (simp <;> omega) | (intros; omega), ?_⟩))
    (repeat (first | refine g1 ?_ | refine g2 ?_ | ((first | refine g3 ?_ | refine g4 ?_ | refine g5 ?_); try simp only [xq, simprocAttr]) | ((first | refine g6 ?_ | refine g7 ?_); simp only [xr, simprocAttr]; repeat (guard_target =~ _ ∧ _; refine ⟨by first | trivial | (unfold I64; omega) | omega | (simp <;> omega) | (intros; omega), ?_⟩))))
    refine ⟨i + 1, by omega, by omega, .inl ?_⟩
    ((try simp only [xk]); (repeat (refine leK_cons ?_ ?_; first | (focus (first | rfl | (simp only [xr, simprocAttr]; done) | (simp only [xr, simprocAttr]; refine int_eq1 ?_; first | trivial | (unfold I64; omega) | omega | (simp <;> omega) | (intros; omega)))) | rotate_left)); (refine leK_nil ?_; exact (by rw [hnx])); (all_goals (try (simp only [xr, simprocAttr]; try refine int_eq1 ?_))))
  · have hc := of_decide_eq_false hc
    obtain rfl : i = n := by omega
    rw [List.take_of_length_le (by omega)]
    (repeat (first | refine g1 ?_ | refine g2 ?_ | ((first | refine g3 ?_ | refine g4 ?_); try simp only [xq, simprocAttr]) | ((first | refine g6 ?_ | refine g7 ?_); simp only [xr, simprocAttr]; repeat (guard_target =~ _ ∧ _; refine ⟨by first | trivial | (unfold I64; omega) | omega | (simp <;> omega) | (intros; omega), ?_⟩))))
    (refine awp_frz 0 rfl ?_; simp only [xz, simprocAttr])
    (repeat (first | refine g1 ?_ | refine g2 ?_ | ((first | refine g3 ?_ | refine g4 ?_ | refine g5 ?_); try simp only [xq, simprocAttr]) | ((first | refine g6 ?_ | refine g7 ?_); simp only [xr, simprocAttr]; repeat (guard_target =~ _ ∧ _; refine ⟨by first | trivial | (unfold I64; omega) | omega | (simp <;> omega) | (intros; omega), ?_⟩))))
    (simp only [xe, simprocAttr]; refine ⟨_, rfl, rfl, Imp.eq ?_⟩)
    rfl
set_option maxHeartbeats 2000000 in
theorem l11Det_d : ∀ (n : Nat), n ≤ 4 → ∀ m : List (List Int), SqM n 80 m → Does Try.prog 33 [.sl (.ii m)] (.imm (.int (detL n m)))
  | 0, _, m, h => by
    have hml := h.len
    refine spec_imm Try.func33 rfl Try.ntmps33 cfOK (fun _ _ => by kernel_rfl) rfl (Nat.le_of_ble_eq_true rfl) ?_
    intro M0 w0
    rw [Try.results33]
    (repeat (first | refine g1 ?_ | refine g2 ?_ | ((first | refine g3 ?_ | refine g4 ?_ | refine g5 ?_); try simp only [xq, simprocAttr]) | ((first | refine g6 ?_ | refine g7 ?_); simp only [xr, simprocAttr]; repeat (guard_target =~ _ ∧ _; refine ⟨by first | trivial | (unfold I64; omega) | omega | (simp <;> omega) | (intros; omega), ?_⟩))))
    refine awp_cond (by first | rfl | (simp only [xr, simprocAttr]; rfl)) (fun hc => ?_) (fun hc => ?_)
    · (repeat (first | refine g1 ?_ | refine g2 ?_ | ((first | refine g3 ?_ | refine g4 ?_ | refine g5 ?_); try simp only [xq, simprocAttr]) | ((first | refine g6 ?_ | refine g7 ?_); simp only [xr, simprocAttr]; repeat (guard_target =~ _ ∧ _; refine ⟨by first | trivial | (unfold I64; omega) | omega | (simp <;> omega) | (intros; omega), ?_⟩))))
      (simp only [xe, simprocAttr]; refine ⟨_, rfl, rfl, Imp.eq ?_⟩)
      rfl
    · have hc := of_decide_eq_false hc
      omega
  | n + 1, hn, m, h => by
    have ih := l11Det_d n (by omega)
    have hml := h.len
    have hD := dBd_le (n := n) (by omega)
    have hD3 : dBd 80 n ≤ 3072000 := by
      match n, hn with
      | 0, _ => decide
      | 1, _ => decide
      | 2, _ => decide
      | 3, _ => decide
    have hr0 : (m.getD 0 []).length = n + 1 := by rw [getD_inQ (by omega)]; exact h.row _ (List.getElem_mem _)
    have hterm : ∀ k, k < n + 1 → -245760000 ≤ sgn k * (m.getD 0 []).getD k 0 * detL n (minorL m k) ∧ sgn k * (m.getD 0 []).getD k 0 * detL n (minorL m k) ≤ 245760000 := fun k hk => by
      have h1 := ent_bd (by decide) h 0 k
      have h2 := mul_abs (A := 1) (sgn_bd k) h1
      rw [Int.one_mul] at h2
      have h3 := mul_abs h2 (det_bd (by decide) (minor_sq h hk))
      omega
    refine spec_imm Try.func33 rfl Try.ntmps33 cfOK (fun _ _ => by kernel_rfl) rfl (Nat.le_of_ble_eq_true rfl) ?_
    intro M0 w0
    rw [Try.results33]
    (repeat (first | refine g1 ?_ | refine g2 ?_ | ((first | refine g3 ?_ | refine g4 ?_ | refine g5 ?_); try simp only [xq, simprocAttr]) | ((first | refine g6 ?_ | refine g7 ?_); simp only [xr, simprocAttr]; repeat (guard_target =~ _ ∧ _; refine ⟨by first | trivial | (unfold I64; omega) | omega | (simp <;> omega) | (intros; omega), ?_⟩))))
    refine awp_cond (by first | rfl | (simp only [xr, simprocAttr]; rfl)) (fun hc => ?_) (fun hc => ?_)
    · have hc := of_decide_eq_true hc
      omega
    (repeat (first | refine g1 ?_ | refine g2 ?_ | ((first | refine g3 ?_ | refine g4 ?_ | refine g5 ?_); try simp only [xq, simprocAttr]) | ((first | refine g6 ?_ | refine g7 ?_); simp only [xr, simprocAttr]; repeat (guard_target =~ _ ∧ _; refine ⟨by first | trivial | (unfold I64; omega) | omega | (simp <;> omega) | (intros; omega), ?_⟩))))
    refine awp_rounds (α := Nat) (fun k => [(5, true, .int k), (4, true, .int (sgn k)), (3, true, .int (smD (fun j => sgn j * (m.getD 0 []).getD j 0 * detL n (minorL m j)) k))]) [0] (fun _ => []) (fun k => k ≤ n + 1) (fun k => n + 1 - k) 0 (by ((try simp only [xk]); (repeat (refine leK_cons ?_ ?_; first | (focus (first | rfl | (simp only [xr, simprocAttr]; done) | (simp only [xr, simprocAttr]; refine int_eq1 ?_; first | trivial | (unfold I64; omega) | omega | (simp <;> omega) | (intros; omega)))) | rotate_left)); (try exact leK_nil rfl); (all_goals (try (simp only [xr, simprocAttr]; try refine int_eq1 ?_))))) (Nat.zero_le _) fun k hk => ?_
    have hpart := smD_abs (f := fun j => sgn j * (m.getD 0 []).getD j 0 * detL n (minorL m j)) (B := 245760000) (n := k) fun j hj => hterm j (by omega)
    have hsg := sgn_bd k
    simp only [xr, simprocAttr]
    (repeat (first | refine g1 ?_ | refine g2 ?_ | ((first | refine g3 ?_ | refine g4 ?_ | refine g5 ?_); try simp only [xq, simprocAttr]) | ((first | refine g6 ?_ | refine g7 ?_); simp only [xr, simprocAttr]; repeat (guard_target =~ _ ∧ _; refine ⟨by first | trivial | (unfold I64; omega) | omega | (simp <;> omega) | (intros; omega), ?_⟩))))
    refine awp_cond (by first | rfl | (simp only [xr, simprocAttr]; rfl)) (fun hd => ?_) (fun hd => ?_)
    · have hd := of_decide_eq_true hd
      have hk' : k < n + 1 := by omega
      have ht := hterm k hk'
      have hsx := sgn_next k
      have he := mul_abs (A := 1) hsg (ent_bd (by decide) h 0 k)
      (repeat (first | refine g1 ?_ | refine g2 ?_ | ((first | refine g3 ?_ | refine g4 ?_ | refine g5 ?_); try simp only [xq, simprocAttr]) | ((first | refine g6 ?_ | refine g7 ?_); simp only [xr, simprocAttr]; repeat (guard_target =~ _ ∧ _; refine ⟨by first | trivial | (unfold I64; omega) | omega | (simp <;> omega) | (intros; omega), ?_⟩))))
      ((try refine Or.inl ?_); refine ⟨_, (l11Minor_d m k h hk' (by omega)), .inr (by and_intros <;> first | rfl | (simp; done)), ?_⟩; (try simp only [xr, simprocAttr]); repeat (guard_target =~ _ ∧ _; refine ⟨by first | trivial | (unfold I64; omega) | omega | (simp <;> omega) | (intros; omega), ?_⟩))
      (repeat (first | refine g1 ?_ | refine g2 ?_ | ((first | refine g3 ?_ | refine g4 ?_ | refine g5 ?_); try simp only [xq, simprocAttr]) | ((first | refine g6 ?_ | refine g7 ?_); simp only [xr, simprocAttr]; repeat (guard_target =~ _ ∧ _; refine ⟨by first | trivial | (unfold I64; omega) | omega | (simp <;> omega) | (intros; omega), ?_⟩))))
      ((try refine Or.inl ?_); refine ⟨_, (ih (minorL m k) (minor_sq h hk')), .inl rfl, ?_⟩; (try simp only [xr, simprocAttr]); repeat (guard_target =~ _ ∧ _; refine ⟨by first | trivial | (unfold I64; omega) | omega | (simp <;> omega) | (intros; omega), ?_⟩))
      (repeat (first | refine g1 ?_ | refine g2 ?_ | ((first | refine g3 ?_ | refine g4 ?_ | refine g5 ?_); try simp only [xq, simprocAttr]) | ((first | refine g6 ?_ | refine g7 ?_); simp only [xr, simprocAttr]; repeat (guard_target =~ _ ∧ _; refine ⟨by first | trivial | (unfold I64; omega) | omega | (simp <;> omega) | (intros; omega), ?_⟩))))
      refine ⟨k + 1, by omega, by omega, .inl ?_⟩
      ((try simp only [xk]); (repeat (refine leK_cons ?_ ?_; first | (focus (first | rfl | (simp only [xr, simprocAttr]; done) | (simp only [xr, simprocAttr]; refine int_eq1 ?_; first | trivial | (unfold I64; omega) | omega | (simp <;> omega) | (intros; omega)))) | rotate_left)); (try exact leK_nil rfl); (all_goals (try (simp only [xr, simprocAttr]; try refine int_eq1 ?_))))
      all_goals first | rfl | (rw [hsx]; done)
    · have hd := of_decide_eq_false hd
      obtain rfl : k = n + 1 := by omega
      (repeat (first | refine g1 ?_ | refine g2 ?_ | ((first | refine g3 ?_ | refine g4 ?_ | refine g5 ?_); try simp only [xq, simprocAttr]) | ((first | refine g6 ?_ | refine g7 ?_); simp only [xr, simprocAttr]; repeat (guard_target =~ _ ∧ _; refine ⟨by first | trivial | (unfold I64; omega) | omega | (simp <;> omega) | (intros; omega), ?_⟩))))
      (simp only [xe, simprocAttr]; refine ⟨_, rfl, rfl, Imp.eq ?_⟩)
      rfl
end Go.Proofs.Ytpihfeganpdjiaa
/- Solved systems, on the machine: the reference's. Conditions: small square matrices. -/
set_option linter.all false
set_option linter.unusedSimpArgs false
set_option linter.unusedVariables false
namespace Go.Proofs.Ytpihfeganpdjiaa
open Go Go.RowKit Am

theorem colOf_len (m : List (List Int)) (j : Nat) : (colOf m j).length = m.length := by simp [colOf]
theorem colOf_getD {m : List (List Int)} {j i : Nat} (h : i < m.length) : (colOf m j).getD i 0 = (m.getD i []).getD j 0 := by
  rw [getD_inQ (by rw [colOf_len]; exact h), getD_inQ h]
  simp [colOf]
theorem colOf_next {m : List (List Int)} {j i : Nat} (h : i < m.length) : (colOf m j).take (i + 1) = (colOf m j).take i ++ [(m.getD i []).getD j 0] := by
  rw [take_getD (by rw [colOf_len]; exact h) 0, colOf_getD h]
theorem colsOf_next {n : Nat} {m : List (List Int)} {k : Nat} (h : k < n) : (colsOf n m).take (k + 1) = (colsOf n m).take k ++ [colOf m k] := colsOf_take n m k h
theorem colsOf_getD {n : Nat} {m : List (List Int)} {k : Nat} (h : k < n) : (colsOf n m).getD k [] = colOf m k := by
  rw [getD_inQ (by rw [colsOf_len]; exact h), colsOf_at]
theorem l11Turned_d (m : List (List Int)) (c : Nat) (h0 : 0 < m.length) (hm : m.length ≤ 100) (hc : c ≤ 100) (hr : ∀ r ∈ m, r.length = c) : Does Try.prog 16 [.sl (.ii m)] (.imm (.sl (.ii (colsOf c m)))) := by
  have hrow : ∀ i, i < m.length → (m.getD i []).length = c := fun i hi => by rw [getD_inQ hi]; exact hr _ (List.getElem_mem _)
  have hr0 := hrow 0 h0
  have hcl := colsOf_len c m
  refine spec_imm Try.func16 rfl Try.ntmps16 cfOK (fun _ _ => by kernel_rfl) rfl (Nat.le_of_ble_eq_true rfl) ?_
  intro M0 w0
  rw [Try.results16]
  (repeat (first | refine g1 ?_ | refine g2 ?_ | ((first | refine g3 ?_ | refine g4 ?_ | refine g5 ?_); try simp only [xq, simprocAttr]) | ((first | refine g6 ?_ | refine g7 ?_); simp only [xr, simprocAttr]; repeat (guard_target =~ _ ∧ _; refine ⟨by first | trivial | (unfold I64; omega) | omega | (simp <;> omega) | (intros; omega), ?_⟩))))
  refine awp_rounds (α := Nat) (fun k => [(4, true, .int k)]) [0, 3] (fun k => [.row 36 (.ii ((colsOf c m).take k))]) (fun k => k ≤ c) (fun k => c - k) 0 (by ((try simp only [xk]); (repeat (refine leK_cons ?_ ?_; first | (focus (first | rfl | (simp only [xr, simprocAttr]; done) | (simp only [xr, simprocAttr]; refine int_eq1 ?_; first | trivial | (unfold I64; omega) | omega | (simp <;> omega) | (intros; omega)))) | rotate_left)); (refine leK_nil ?_; exact (by rfl)); (all_goals (try (simp only [xr, simprocAttr]; try refine int_eq1 ?_))))) (Nat.zero_le _) fun k hk => ?_
  have htl : ((colsOf c m).take k).length ≤ k := by rw [List.length_take]; omega
  simp only [xr, simprocAttr]
  (repeat (first | refine g1 ?_ | refine g2 ?_ | ((first | refine g3 ?_ | refine g4 ?_ | refine g5 ?_); try simp only [xq, simprocAttr]) | ((first | refine g6 ?_ | refine g7 ?_); simp only [xr, simprocAttr]; repeat (guard_target =~ _ ∧ _; refine ⟨by first | trivial | (unfold I64; omega) | omega | (simp <;> omega) | (intros; omega), ?_⟩))))
  refine awp_cond (by first | rfl | (simp only [xr, simprocAttr]; rfl)) (fun hd => ?_) (fun hd => ?_)
  · have hd := of_decide_eq_true hd
    have hk' : k < c := by omega
    have hol := colOf_len m k
    (repeat (first | refine g1 ?_ | refine g2 ?_ | ((first | refine g3 ?_ | refine g4 ?_ | refine g5 ?_); try simp only [xq, simprocAttr]) | ((first | refine g6 ?_ | refine g7 ?_); simp only [xr, simprocAttr]; repeat (guard_target =~ _ ∧ _; refine ⟨by first | trivial | (unfold I64; omega) | omega | (simp <;> omega) | (intros; omega), ?_⟩))))
    refine awp_rounds (α := Nat) (fun i => [(6, true, .int i)]) [0, 3, 4, 5] (fun i => [.row 36 (.ii ((colsOf c m).take k)), .row 3 (.ints ((colOf m k).take i))]) (fun i => i ≤ m.length) (fun i => m.length - i) 0 (by ((try simp only [xk]); (repeat (refine leK_cons ?_ ?_; first | (focus (first | rfl | (simp only [xr, simprocAttr]; done) | (simp only [xr, simprocAttr]; refine int_eq1 ?_; first | trivial | (unfold I64; omega) | omega | (simp <;> omega) | (intros; omega)))) | rotate_left)); (refine leK_nil ?_; exact (by rfl)); (all_goals (try (simp only [xr, simprocAttr]; try refine int_eq1 ?_))))) (Nat.zero_le _) fun i hi => ?_
    have hil : ((colOf m k).take i).length ≤ i := by rw [List.length_take]; omega
    simp only [xr, simprocAttr]
    (repeat (first | refine g1 ?_ | refine g2 ?_ | ((first | refine g3 ?_ | refine g4 ?_ | refine g5 ?_); try simp only [xq, simprocAttr]) | ((first | refine g6 ?_ | refine g7 ?_); simp only [xr, simprocAttr]; repeat (guard_target =~ _ ∧ _; refine ⟨by first | trivial | (unfold I64; omega) | omega | (simp <;> omega) | (intros; omega), ?_⟩))))
    refine awp_cond (by first | rfl | (simp only [xr, simprocAttr]; rfl)) (fun he => ?_) (fun he => ?_)
    · have he := of_decide_eq_true he
      have hi' : i < m.length := by omega
      have hri := hrow i hi'
      have hnx := colOf_next (m := m) (j := k) hi'
      (repeat (first | refine g1 ?_ | refine g2 ?_ | ((first | refine g3 ?_ | refine g4 ?_ | refine g5 ?_); try simp only [xq, simprocAttr]) | ((first | refine g6 ?_ | refine g7 ?_); simp only [xr, simprocAttr]; repeat (guard_target =~ _ ∧ _; refine ⟨by first | trivial | (unfold I64; omega) | omega | (simp <;> omega) | (intros; omega), ?_⟩))))
      refine ⟨i + 1, by omega, by omega, .inl ?_⟩
      ((try simp only [xk]); (repeat (refine leK_cons ?_ ?_; first | (focus (first | rfl | (simp only [xr, simprocAttr]; done) | (simp only [xr, simprocAttr]; refine int_eq1 ?_; first | trivial | (unfold I64; omega) | omega | (simp <;> omega) | (intros; omega)))) | rotate_left)); (refine leK_nil ?_; exact (by rw [hnx])); (all_goals (try (simp only [xr, simprocAttr]; try refine int_eq1 ?_))))
    · have he := of_decide_eq_false he
      obtain rfl : i = m.length := by omega
      rw [show (colOf m k).take m.length = colOf m k from List.take_of_length_le (by omega)]
      have hnx := colsOf_next (m := m) hk'
      (repeat (first | refine g1 ?_ | refine g2 ?_ | ((first | refine g3 ?_ | refine g4 ?_); try simp only [xq, simprocAttr])))
      (refine awp_frz 1 rfl ?_; simp only [xz, simprocAttr])
      (repeat (first | refine g1 ?_ | refine g2 ?_ | ((first | refine g3 ?_ | refine g4 ?_ | refine g5 ?_); try simp only [xq, simprocAttr]) | ((first | refine g6 ?_ | refine g7 ?_); simp only [xr, simprocAttr]; repeat (guard_target =~ _ ∧ _; refine ⟨by first | trivial | (unfold I64; omega) | omega | (simp <;> omega) | (intros; omega), ?_⟩))))
      refine ⟨k + 1, by omega, by omega, .inr ⟨1, Nat.le_of_ble_eq_true rfl, leT_of ?_ rfl rfl rfl⟩⟩
      ((try simp only [xk]); (repeat (refine leK_cons ?_ ?_; first | (focus (first | rfl | (simp only [xr, simprocAttr]; done) | (simp only [xr, simprocAttr]; refine int_eq1 ?_; first | trivial | (unfold I64; omega) | omega | (simp <;> omega) | (intros; omega)))) | rotate_left)); (refine leK_nil ?_; exact (by rw [hnx]; rfl)); (all_goals (try (simp only [xr, simprocAttr]; try refine int_eq1 ?_))))
  · have hd := of_decide_eq_false hd
    obtain rfl : k = c := by omega
    rw [show (colsOf k m).take k = colsOf k m from List.take_of_length_le (by omega)]
    (repeat (first | refine g1 ?_ | refine g2 ?_ | ((first | refine g3 ?_ | refine g4 ?_); try simp only [xq, simprocAttr]) | ((first | refine g6 ?_ | refine g7 ?_); simp only [xr, simprocAttr]; repeat (guard_target =~ _ ∧ _; refine ⟨by first | trivial | (unfold I64; omega) | omega | (simp <;> omega) | (intros; omega), ?_⟩))))
    (refine awp_frz 0 rfl ?_; simp only [xz, simprocAttr])
    (repeat (first | refine g1 ?_ | refine g2 ?_ | ((first | refine g3 ?_ | refine g4 ?_ | refine g5 ?_); try simp only [xq, simprocAttr]) | ((first | refine g6 ?_ | refine g7 ?_); simp only [xr, simprocAttr]; repeat (guard_target =~ _ ∧ _; refine ⟨by first | trivial | (unfold I64; omega) | omega | (simp <;> omega) | (intros; omega), ?_⟩))))
    (simp only [xe, simprocAttr]; refine ⟨_, rfl, rfl, Imp.eq ?_⟩)
    rfl
/-- the first rows of the reference's system -/
def sysK (m : List (List Int)) (k : Nat) : List (List Int) := (List.range k).map fun k => colOf m k ++ [-1]
theorem sysK_next (m : List (List Int)) (k : Nat) : sysK m (k + 1) = sysK m k ++ [colOf m k ++ [-1]] := by
  unfold sysK
  rw [List.range_succ, List.map_append]
  rfl
theorem sysK_len (m : List (List Int)) (k : Nat) : (sysK m k).length = k := by simp [sysK]
set_option maxHeartbeats 1000000 in
theorem l11System_d (m : List (List Int)) (n : Nat) (h1 : 1 ≤ n) (h3 : n ≤ 3) (hm : m.length = n) (hr : ∀ r ∈ m, r.length = n) : Does Try.prog 32 [.sl (.ii m)] (.imm (.sl (.ii (sysS n m)))) := by
  have hcl := colsOf_len n m
  refine spec_imm Try.func32 rfl Try.ntmps32 cfOK (fun _ _ => by kernel_rfl) rfl (Nat.le_of_ble_eq_true rfl) ?_
  intro M0 w0
  rw [Try.results32]
  (repeat (first | refine g1 ?_ | refine g2 ?_ | ((first | refine g3 ?_ | refine g4 ?_ | refine g5 ?_); try simp only [xq, simprocAttr]) | ((first | refine g6 ?_ | refine g7 ?_); simp only [xr, simprocAttr]; repeat (guard_target =~ _ ∧ _; refine ⟨by first | trivial | (unfold I64; omega) | omega | (simp <;> omega) | (intros; omega), ?_⟩))))
  ((try refine Or.inl ?_); refine ⟨_, (l11Turned_d m n (by omega) (by omega) (by omega) hr), .inr (by and_intros <;> first | rfl | (simp; done)), ?_⟩; (try simp only [xr, simprocAttr]); repeat (guard_target =~ _ ∧ _; refine ⟨by first | trivial | (unfold I64; omega) | omega | (simp <;> omega) | (intros; omega), ?_⟩))
  (repeat (first | refine g1 ?_ | refine g2 ?_ | ((first | refine g3 ?_ | refine g4 ?_ | refine g5 ?_); try simp only [xq, simprocAttr]) | ((first | refine g6 ?_ | refine g7 ?_); simp only [xr, simprocAttr]; repeat (guard_target =~ _ ∧ _; refine ⟨by first | trivial | (unfold I64; omega) | omega | (simp <;> omega) | (intros; omega), ?_⟩))))
  (refine awp_toT 0 3 [] rfl rfl rfl ?_; simp only [xu, simprocAttr])
  refine awp_rounds (α := Nat) (fun k => [(6, true, .int k)]) [3, 4, 5] (fun k => [.tree [36, 3] (.ii (sysK m k)), .row 3 (.ints (List.replicate k 1))]) (fun k => k ≤ n) (fun k => n - k) 0 (by ((try simp only [xk]); (repeat (refine leK_cons ?_ ?_; first | (focus (first | rfl | (simp only [xr, simprocAttr]; done) | (simp only [xr, simprocAttr]; refine int_eq1 ?_; first | trivial | (unfold I64; omega) | omega | (simp <;> omega) | (intros; omega)))) | rotate_left)); (refine leK_nil ?_; exact (by rfl)); (all_goals (try (simp only [xr, simprocAttr]; try refine int_eq1 ?_))))) (Nat.zero_le _) fun k hk => ?_
  have hkl := sysK_len m k
  simp only [xr, simprocAttr]
  (repeat (first | refine g1 ?_ | refine g2 ?_ | ((first | refine g3 ?_ | refine g4 ?_ | refine g5 ?_); try simp only [xq, simprocAttr]) | ((first | refine g6 ?_ | refine g7 ?_); simp only [xr, simprocAttr]; repeat (guard_target =~ _ ∧ _; refine ⟨by first | trivial | (unfold I64; omega) | omega | (simp <;> omega) | (intros; omega), ?_⟩))))
  refine awp_cond (by first | rfl | (simp only [xr, simprocAttr]; rfl)) (fun hd => ?_) (fun hd => ?_)
  · have hd := of_decide_eq_true hd
    have hk' : k < n := by omega
    have hol := colOf_len m k
    have hat := colsOf_getD (n := n) (m := m) hk'
    have hnx := sysK_next m k
    have hrn : List.replicate (k + 1) (1 : Int) = List.replicate k 1 ++ [1] := List.replicate_succ'
    (repeat (first | refine g1 ?_ | refine g2 ?_ | ((first | refine g3 ?_ | refine g4 ?_ | refine g5 ?_); try simp only [xq, simprocAttr]) | ((first | refine g6 ?_ | refine g7 ?_); simp only [xr, simprocAttr]; repeat (guard_target =~ _ ∧ _; refine ⟨by first | trivial | (unfold I64; omega) | omega | (simp <;> omega) | (intros; omega), ?_⟩))))
    rw [hat]
    (refine .inr (callW_b (l1OwnQ_h (colOf m k) (by omega)) rfl rfl rfl rfl rfl rfl rfl ?_); (try simp only [xr, simprocAttr]); repeat (guard_target =~ _ ∧ _; refine ⟨by first | trivial | (unfold I64; omega) | omega | (simp <;> omega) | (intros; omega), ?_⟩))
    (repeat (first | refine g1 ?_ | refine g2 ?_ | ((first | refine g3 ?_ | refine g4 ?_ | refine g5 ?_); try simp only [xq, simprocAttr]) | ((first | refine g6 ?_ | refine g7 ?_); simp only [xr, simprocAttr]; repeat (guard_target =~ _ ∧ _; refine ⟨by first | trivial | (unfold I64; omega) | omega | (simp <;> omega) | (intros; omega), ?_⟩))))
    refine ⟨k + 1, by omega, by omega, .inr ⟨2, Nat.le_of_ble_eq_true rfl, leT_of ?_ rfl rfl rfl⟩⟩
    ((try simp only [xk]); (repeat (refine leK_cons ?_ ?_; first | (focus (first | rfl | (simp only [xr, simprocAttr]; done) | (simp only [xr, simprocAttr]; refine int_eq1 ?_; first | trivial | (unfold I64; omega) | omega | (simp <;> omega) | (intros; omega)))) | rotate_left)); (refine leK_nil ?_; exact (by rw [hnx, hrn]; rfl)); (all_goals (try (simp only [xr, simprocAttr]; try refine int_eq1 ?_))))
  · have hd := of_decide_eq_false hd
    obtain rfl : k = n := by omega
    (repeat (first | refine g1 ?_ | refine g2 ?_ | ((first | refine g3 ?_ | refine g4 ?_); try simp only [xq, simprocAttr]) | ((first | refine g6 ?_ | refine g7 ?_); simp only [xr, simprocAttr]; repeat (guard_target =~ _ ∧ _; refine ⟨by first | trivial | (unfold I64; omega) | omega | (simp <;> omega) | (intros; omega), ?_⟩))))
    (refine awp_frzT 0 rfl ?_; simp only [xz, simprocAttr])
    (repeat (first | refine g1 ?_ | refine g2 ?_ | ((first | refine g3 ?_ | refine g4 ?_ | refine g5 ?_); try simp only [xq, simprocAttr]) | ((first | refine g6 ?_ | refine g7 ?_); simp only [xr, simprocAttr]; repeat (guard_target =~ _ ∧ _; refine ⟨by first | trivial | (unfold I64; omega) | omega | (simp <;> omega) | (intros; omega), ?_⟩))))
    (simp only [xe, simprocAttr]; refine ⟨_, rfl, rfl, Imp.eq ?_⟩)
    rfl
/-! ### the solved system -/
theorem set_bd {B : Int} {r : List Int} {i : Nat} {x : Int} (h : ∀ y ∈ r, -B ≤ y ∧ y ≤ B) (hx : -B ≤ x ∧ x ≤ B) : ∀ y ∈ r.set i x, -B ≤ y ∧ y ≤ B := fun y hy => by
  rcases List.mem_or_eq_of_mem_set hy with h1 | h1
  · exact h y h1
  · rw [h1]; exact hx
theorem sysS_sq {n : Nat} {m : List (List Int)} (h : SqM n 40 m) : SqM (n + 1) 80 (sysS n m) := by
  refine ⟨by simp [sysS], fun r hr => ?_, fun r hr x hx => ?_⟩
  · unfold sysS at hr
    rcases List.mem_append.1 hr with h1 | h1
    · obtain ⟨k, _, rfl⟩ := List.mem_map.1 h1
      rw [List.length_append, colOf_len, h.len]
      rfl
    · rw [List.mem_singleton] at h1
      subst h1
      simp
  · unfold sysS at hr
    rcases List.mem_append.1 hr with h1 | h1
    · obtain ⟨k, _, rfl⟩ := List.mem_map.1 h1
      rcases List.mem_append.1 hx with h2 | h2
      · unfold colOf at h2
        obtain ⟨r, hr2, rfl⟩ := List.mem_map.1 h2
        rw [List.getD_eq_getElem?_getD]
        cases h3 : r[k]? with
        | none => simp
        | some y => have := h.bd r hr2 y (List.mem_of_getElem? h3); simp; omega
      · rw [List.mem_singleton] at h2; omega
    · rw [List.mem_singleton] at h1
      subst h1
      rcases List.mem_append.1 hx with h2 | h2
      · have := List.eq_of_mem_replicate h2; omega
      · rw [List.mem_singleton] at h2; omega
theorem withI_sq {n i : Nat} {s : List (List Int)} (h : SqM n 80 s) : SqM n 80 (withI n i s) := by
  have hmem : ∀ k, k < n → s.getD k [] ∈ s := fun k hk => by rw [getD_inQ (by rw [h.len]; exact hk)]; exact List.getElem_mem _
  refine ⟨by simp [withI], fun r hr => ?_, fun r hr x hx => ?_⟩
  · obtain ⟨k, hk, rfl⟩ := List.mem_map.1 hr
    rw [List.length_set]
    exact h.row _ (hmem k (by simpa using hk))
  · obtain ⟨k, hk, rfl⟩ := List.mem_map.1 hr
    exact set_bd (h.bd _ (hmem k (by simpa using hk))) (by split <;> omega) x hx
theorem withI_next {n i : Nat} {s : List (List Int)} {k : Nat} (hk : k < n) : (withI n i s).take (k + 1) = (withI n i s).take k ++ [(s.getD k []).set i (if k + 1 = n then 1 else 0)] := by
  have hl : (withI n i s).length = n := by simp [withI]
  rw [take_getD (by omega) [], getD_inQ (by omega)]
  simp [withI]
def sgF (d : Int) : Int := if d < 0 then -1 else 1
/-- the solution's numbers with a sign, the first k -/
def solK (n : Nat) (m : List (List Int)) (g : Int) (k : Nat) : List Int := (List.range k).map fun x => g * solS n m x
def solvL (n : Nat) (m : List (List Int)) : List Int := if detL (n + 1) (sysS n m) = 0 then [] else solK n m (sgF (detL (n + 1) (sysS n m))) (n + 1) ++ [sgF (detL (n + 1) (sysS n m)) * detL (n + 1) (sysS n m)]
theorem solK_next (n : Nat) (m : List (List Int)) (g : Int) (k : Nat) : solK n m g (k + 1) = solK n m g k ++ [g * solS n m k] := by
  unfold solK
  rw [List.range_succ, List.map_append]
  rfl
theorem solK_len (n : Nat) (m : List (List Int)) (g : Int) (k : Nat) : (solK n m g k).length = k := by simp [solK]
set_option maxHeartbeats 4000000 in
theorem l11Solve_d (m : List (List Int)) (n : Nat) (h1 : 1 ≤ n) (h3 : n ≤ 3) (hm : SqM n 40 m) : Does Try.prog 18 [.sl (.ii m)] (.imm (.sl (.ints (solvL n m)))) := by
  have hS := sysS_sq hm
  have hdb := det_bd (by decide) hS
  have hD := dBd_le (n := n + 1) (by omega)
  have hsl := hS.len
  unfold solvL
  refine spec_imm Try.func18 rfl Try.ntmps18 cfOK (fun _ _ => by kernel_rfl) rfl (Nat.le_of_ble_eq_true rfl) ?_
  intro M0 w0
  rw [Try.results18]
  (repeat (first | refine g1 ?_ | refine g2 ?_ | ((first | refine g3 ?_ | refine g4 ?_ | refine g5 ?_); try simp only [xq, simprocAttr]) | ((first | refine g6 ?_ | refine g7 ?_); simp only [xr, simprocAttr]; repeat (guard_target =~ _ ∧ _; refine ⟨by first | trivial | (unfold I64; omega) | omega | (simp <;> omega) | (intros; omega), ?_⟩))))
  ((try refine Or.inl ?_); refine ⟨_, (l11System_d m n h1 h3 hm.len hm.row), .inr (by and_intros <;> first | rfl | (simp; done)), ?_⟩; (try simp only [xr, simprocAttr]); repeat (guard_target =~ _ ∧ _; refine ⟨by first | trivial | (unfold I64; omega) | omega | (simp <;> omega) | (intros; omega), ?_⟩))
  (repeat (first | refine g1 ?_ | refine g2 ?_ | ((first | refine g3 ?_ | refine g4 ?_ | refine g5 ?_); try simp only [xq, simprocAttr]) | ((first | refine g6 ?_ | refine g7 ?_); simp only [xr, simprocAttr]; repeat (guard_target =~ _ ∧ _; refine ⟨by first | trivial | (unfold I64; omega) | omega | (simp <;> omega) | (intros; omega), ?_⟩))))
  ((try refine Or.inl ?_); refine ⟨_, (l11Det_d (n + 1) (by omega) (sysS n m) hS), .inl rfl, ?_⟩; (try simp only [xr, simprocAttr]); repeat (guard_target =~ _ ∧ _; refine ⟨by first | trivial | (unfold I64; omega) | omega | (simp <;> omega) | (intros; omega), ?_⟩))
  (repeat (first | refine g1 ?_ | refine g2 ?_ | ((first | refine g3 ?_ | refine g4 ?_ | refine g5 ?_); try simp only [xq, simprocAttr]) | ((first | refine g6 ?_ | refine g7 ?_); simp only [xr, simprocAttr]; repeat (guard_target =~ _ ∧ _; refine ⟨by first | trivial | (unfold I64; omega) | omega | (simp <;> omega) | (intros; omega), ?_⟩))))
  refine awp_cond (by first | rfl | (simp only [xr, simprocAttr]; rfl)) (fun hz => ?_) (fun hz => ?_)
  · have hz := of_decide_eq_true hz
    rw [if_pos hz]
    (repeat (first | refine g1 ?_ | refine g2 ?_ | ((first | refine g3 ?_ | refine g4 ?_); try simp only [xq, simprocAttr]) | ((first | refine g6 ?_ | refine g7 ?_); simp only [xr, simprocAttr]; repeat (guard_target =~ _ ∧ _; refine ⟨by first | trivial | (unfold I64; omega) | omega | (simp <;> omega) | (intros; omega), ?_⟩))))
    (refine awp_frz 0 rfl ?_; simp only [xz, simprocAttr])
    (repeat (first | refine g1 ?_ | refine g2 ?_ | ((first | refine g3 ?_ | refine g4 ?_ | refine g5 ?_); try simp only [xq, simprocAttr]) | ((first | refine g6 ?_ | refine g7 ?_); simp only [xr, simprocAttr]; repeat (guard_target =~ _ ∧ _; refine ⟨by first | trivial | (unfold I64; omega) | omega | (simp <;> omega) | (intros; omega), ?_⟩))))
    (simp only [xe, simprocAttr]; refine ⟨_, rfl, rfl, Imp.eq ?_⟩)
    rfl
  have hz := of_decide_eq_false hz
  rw [if_neg hz]
  obtain ⟨g, hg⟩ : ∃ g, sgF (detL (n + 1) (sysS n m)) = g := ⟨_, rfl⟩
  have hgb : -1 ≤ g ∧ g ≤ 1 := by rw [← hg]; unfold sgF; split <;> omega
  have hgd : I64 (g * detL (n + 1) (sysS n m)) := by
    have := mul_abs hgb hdb
    rw [Int.one_mul] at this
    unfold I64
    omega
  have hsolb : ∀ x, I64 (g * solS n m x) := fun x => by
    have := mul_abs hgb (det_bd (by decide) (withI_sq (i := x) hS))
    rw [Int.one_mul] at this
    unfold I64 solS
    omega
  rw [hg]
  unfold sgF at hg
  (repeat (first | refine g1 ?_ | refine g2 ?_ | ((first | refine g3 ?_ | refine g4 ?_ | refine g5 ?_); try simp only [xq, simprocAttr]) | ((first | refine g6 ?_ | refine g7 ?_); simp only [xr, simprocAttr]; repeat (guard_target =~ _ ∧ _; refine ⟨by first | trivial | (unfold I64; omega) | omega | (simp <;> omega) | (intros; omega), ?_⟩))))
  refine awp_cond (by first | rfl | (simp only [xr, simprocAttr]; rfl)) (fun hs => ?_) (fun hs => ?_)
  · have hs := of_decide_eq_true hs
    rw [if_pos hs] at hg
    subst hg
    (repeat (first | refine g1 ?_ | refine g2 ?_ | ((first | refine g3 ?_ | refine g4 ?_ | refine g5 ?_); try simp only [xq, simprocAttr]) | ((first | refine g6 ?_ | refine g7 ?_); simp only [xr, simprocAttr]; repeat (guard_target =~ _ ∧ _; refine ⟨by first | trivial | (unfold I64; omega) | omega | (simp <;> omega) | (intros; omega), ?_⟩))))
    refine awp_rounds (α := Nat) (fun x => [(7, true, .int x)]) [3, 4, 5, 6] (fun x => [.row 3 (.ints (solK n m (-1) x))]) (fun x => x ≤ n + 1) (fun x => n + 1 - x) 0 (by ((try simp only [xk]); (repeat (refine leK_cons ?_ ?_; first | (focus (first | rfl | (simp only [xr, simprocAttr]; done) | (simp only [xr, simprocAttr]; refine int_eq1 ?_; first | trivial | (unfold I64; omega) | omega | (simp <;> omega) | (intros; omega)))) | rotate_left)); (refine leK_nil ?_; exact (by rfl)); (all_goals (try (simp only [xr, simprocAttr]; try refine int_eq1 ?_))))) (Nat.zero_le _) fun x hx => ?_
    have hkl := solK_len n m (-1) x
    simp only [xr, simprocAttr]
    (repeat (first | refine g1 ?_ | refine g2 ?_ | ((first | refine g3 ?_ | refine g4 ?_ | refine g5 ?_); try simp only [xq, simprocAttr]) | ((first | refine g6 ?_ | refine g7 ?_); simp only [xr, simprocAttr]; repeat (guard_target =~ _ ∧ _; refine ⟨by first | trivial | (unfold I64; omega) | omega | (simp <;> omega) | (intros; omega), ?_⟩))))
    refine awp_cond (by first | rfl | (simp only [xr, simprocAttr]; rfl)) (fun hd => ?_) (fun hd => ?_)
    · have hd := of_decide_eq_true hd
      have hx' : x < n + 1 := by omega
      have hnx := solK_next n m (-1) x
      have hwl : (withI (n + 1) x (sysS n m)).length = n + 1 := by simp [withI]
      have hso := hsolb x
      have hdw := det_bd (by decide) (withI_sq (i := x) hS)
      (repeat (first | refine g1 ?_ | refine g2 ?_ | ((first | refine g3 ?_ | refine g4 ?_ | refine g5 ?_); try simp only [xq, simprocAttr]) | ((first | refine g6 ?_ | refine g7 ?_); simp only [xr, simprocAttr]; repeat (guard_target =~ _ ∧ _; refine ⟨by first | trivial | (unfold I64; omega) | omega | (simp <;> omega) | (intros; omega), ?_⟩))))
      refine awp_rounds (α := Nat) (fun i => [(9, true, .int i)]) [3, 4, 5, 6, 7, 8] (fun i => [.row 3 (.ints (solK n m (-1) x)), .row 36 (.ii ((withI (n + 1) x (sysS n m)).take i))]) (fun i => i ≤ n + 1) (fun i => n + 1 - i) 0 (by ((try simp only [xk]); (repeat (refine leK_cons ?_ ?_; first | (focus (first | rfl | (simp only [xr, simprocAttr]; done) | (simp only [xr, simprocAttr]; refine int_eq1 ?_; first | trivial | (unfold I64; omega) | omega | (simp <;> omega) | (intros; omega)))) | rotate_left)); (refine leK_nil ?_; exact (by rfl)); (all_goals (try (simp only [xr, simprocAttr]; try refine int_eq1 ?_))))) (Nat.zero_le _) fun i hi => ?_
      have hil : ((withI (n + 1) x (sysS n m)).take i).length ≤ i := by rw [List.length_take]; omega
      simp only [xr, simprocAttr]
      (repeat (first | refine g1 ?_ | refine g2 ?_ | ((first | refine g3 ?_ | refine g4 ?_ | refine g5 ?_); try simp only [xq, simprocAttr]) | ((first | refine g6 ?_ | refine g7 ?_); simp only [xr, simprocAttr]; repeat (guard_target =~ _ ∧ _; refine ⟨by first | trivial | (unfold I64; omega) | omega | (simp <;> omega) | (intros; omega), ?_⟩))))
      refine awp_cond (by first | rfl | (simp only [xr, simprocAttr]; rfl)) (fun he => ?_) (fun he => ?_)
      · have he := of_decide_eq_true he
        have hi' : i < n + 1 := by omega
        have hri : ((sysS n m).getD i []).length = n + 1 := by rw [getD_inQ (by omega)]; exact hS.row _ (List.getElem_mem _)
        have hnw := withI_next (n := n + 1) (i := x) (s := sysS n m) hi'
        (repeat (first | refine g1 ?_ | refine g2 ?_ | ((first | refine g3 ?_ | refine g4 ?_ | refine g5 ?_); try simp only [xq, simprocAttr]) | ((first | refine g6 ?_ | refine g7 ?_); simp only [xr, simprocAttr]; repeat (guard_target =~ _ ∧ _; refine ⟨by first | trivial | (unfold I64; omega) | omega | (simp <;> omega) | (intros; omega), ?_⟩))))
        refine awp_cond (by first | rfl | (simp only [xr, simprocAttr]; rfl)) (fun hq => ?_) (fun hq => ?_)
        · have hq := of_decide_eq_true hq
          rw [if_pos (by omega)] at hnw
          (repeat (first | refine g1 ?_ | refine g2 ?_ | ((first | refine g3 ?_ | refine g4 ?_ | refine g5 ?_); try simp only [xq, simprocAttr]) | ((first | refine g6 ?_ | refine g7 ?_); simp only [xr, simprocAttr]; repeat (guard_target =~ _ ∧ _; refine ⟨by first | trivial | (unfold I64; omega) | omega | (simp <;> omega) | (intros; omega), ?_⟩))))
          ((try refine Or.inl ?_); refine ⟨_, (l4With_d ((sysS n m).getD i []) x 1 (by omega) (by omega)), .inr (by and_intros <;> first | rfl | (simp; done)), ?_⟩; (try simp only [xr, simprocAttr]); repeat (guard_target =~ _ ∧ _; refine ⟨by first | trivial | (unfold I64; omega) | omega | (simp <;> omega) | (intros; omega), ?_⟩))
          (repeat (first | refine g1 ?_ | refine g2 ?_ | ((first | refine g3 ?_ | refine g4 ?_ | refine g5 ?_); try simp only [xq, simprocAttr]) | ((first | refine g6 ?_ | refine g7 ?_); simp only [xr, simprocAttr]; repeat (guard_target =~ _ ∧ _; refine ⟨by first | trivial | (unfold I64; omega) | omega | (simp <;> omega) | (intros; omega), ?_⟩))))
          refine ⟨i + 1, by omega, by omega, .inl ?_⟩
          ((try simp only [xk]); (repeat (refine leK_cons ?_ ?_; first | (focus (first | rfl | (simp only [xr, simprocAttr]; done) | (simp only [xr, simprocAttr]; refine int_eq1 ?_; first | trivial | (unfold I64; omega) | omega | (simp <;> omega) | (intros; omega)))) | rotate_left)); (refine leK_nil ?_; exact (by rw [hnw])); (all_goals (try (simp only [xr, simprocAttr]; try refine int_eq1 ?_))))
        · have hq := of_decide_eq_false hq
          rw [if_neg (by omega)] at hnw
          (repeat (first | refine g1 ?_ | refine g2 ?_ | ((first | refine g3 ?_ | refine g4 ?_ | refine g5 ?_); try simp only [xq, simprocAttr]) | ((first | refine g6 ?_ | refine g7 ?_); simp only [xr, simprocAttr]; repeat (guard_target =~ _ ∧ _; refine ⟨by first | trivial | (unfold I64; omega) | omega | (simp <;> omega) | (intros; omega), ?_⟩))))
          ((try refine Or.inl ?_); refine ⟨_, (l4With_d ((sysS n m).getD i []) x 0 (by omega) (by omega)), .inr (by and_intros <;> first | rfl | (simp; done)), ?_⟩; (try simp only [xr, simprocAttr]); repeat (guard_target =~ _ ∧ _; refine ⟨by first | trivial | (unfold I64; omega) | omega | (simp <;> omega) | (intros; omega), ?_⟩))
          (repeat (first | refine g1 ?_ | refine g2 ?_ | ((first | refine g3 ?_ | refine g4 ?_ | refine g5 ?_); try simp only [xq, simprocAttr]) | ((first | refine g6 ?_ | refine g7 ?_); simp only [xr, simprocAttr]; repeat (guard_target =~ _ ∧ _; refine ⟨by first | trivial | (unfold I64; omega) | omega | (simp <;> omega) | (intros; omega), ?_⟩))))
          refine ⟨i + 1, by omega, by omega, .inl ?_⟩
          ((try simp only [xk]); (repeat (refine leK_cons ?_ ?_; first | (focus (first | rfl | (simp only [xr, simprocAttr]; done) | (simp only [xr, simprocAttr]; refine int_eq1 ?_; first | trivial | (unfold I64; omega) | omega | (simp <;> omega) | (intros; omega)))) | rotate_left)); (refine leK_nil ?_; exact (by rw [hnw])); (all_goals (try (simp only [xr, simprocAttr]; try refine int_eq1 ?_))))
      · have he := of_decide_eq_false he
        obtain rfl : i = n + 1 := by omega
        rw [List.take_of_length_le (by omega)]
        (repeat (first | refine g1 ?_ | refine g2 ?_ | ((first | refine g3 ?_ | refine g4 ?_ | refine g5 ?_); try simp only [xq, simprocAttr]) | ((first | refine g6 ?_ | refine g7 ?_); simp only [xr, simprocAttr]; repeat (guard_target =~ _ ∧ _; refine ⟨by first | trivial | (unfold I64; omega) | omega | (simp <;> omega) | (intros; omega), ?_⟩))))
        ((try refine Or.inl ?_); refine ⟨_, (l11Det_d (n + 1) (by omega) (withI (n + 1) x (sysS n m)) (withI_sq hS)), .inl rfl, ?_⟩; (try simp only [xr, simprocAttr]); repeat (guard_target =~ _ ∧ _; refine ⟨by first | trivial | (unfold I64; omega) | omega | (simp <;> omega) | (intros; omega), ?_⟩))
        (repeat (first | refine g1 ?_ | refine g2 ?_ | ((first | refine g3 ?_ | refine g4 ?_ | refine g5 ?_); try simp only [xq, simprocAttr]) | ((first | refine g6 ?_ | refine g7 ?_); simp only [xr, simprocAttr]; repeat (guard_target =~ _ ∧ _; refine ⟨by first | trivial | (unfold I64; omega) | omega | (simp <;> omega) | (intros; omega), ?_⟩))))
        refine ⟨x + 1, by omega, by omega, .inr ⟨1, Nat.le_of_ble_eq_true rfl, leT_of ?_ rfl rfl rfl⟩⟩
        ((try simp only [xk]); (repeat (refine leK_cons ?_ ?_; first | (focus (first | rfl | (simp only [xr, simprocAttr]; done) | (simp only [xr, simprocAttr]; refine int_eq1 ?_; first | trivial | (unfold I64; omega) | omega | (simp <;> omega) | (intros; omega)))) | rotate_left)); (refine leK_nil ?_; exact (by rw [hnx]; rfl)); (all_goals (try (simp only [xr, simprocAttr]; try refine int_eq1 ?_))))
    · have hd := of_decide_eq_false hd
      obtain rfl : x = n + 1 := by omega
      (repeat (first | refine g1 ?_ | refine g2 ?_ | ((first | refine g3 ?_ | refine g4 ?_); try simp only [xq, simprocAttr]) | ((first | refine g6 ?_ | refine g7 ?_); simp only [xr, simprocAttr]; repeat (guard_target =~ _ ∧ _; refine ⟨by first | trivial | (unfold I64; omega) | omega | (simp <;> omega) | (intros; omega), ?_⟩))))
      (refine awp_frz 0 rfl ?_; simp only [xz, simprocAttr])
      (repeat (first | refine g1 ?_ | refine g2 ?_ | ((first | refine g3 ?_ | refine g4 ?_ | refine g5 ?_); try simp only [xq, simprocAttr]) | ((first | refine g6 ?_ | refine g7 ?_); simp only [xr, simprocAttr]; repeat (guard_target =~ _ ∧ _; refine ⟨by first | trivial | (unfold I64; omega) | omega | (simp <;> omega) | (intros; omega), ?_⟩))))
      (simp only [xe, simprocAttr]; refine ⟨_, rfl, rfl, Imp.eq ?_⟩)
      rfl
  · have hs := of_decide_eq_false hs
    rw [if_neg hs] at hg
    subst hg
    (repeat (first | refine g1 ?_ | refine g2 ?_ | ((first | refine g3 ?_ | refine g4 ?_ | refine g5 ?_); try simp only [xq, simprocAttr]) | ((first | refine g6 ?_ | refine g7 ?_); simp only [xr, simprocAttr]; repeat (guard_target =~ _ ∧ _; refine ⟨by first | trivial | (unfold I64; omega) | omega | (simp <;> omega) | (intros; omega), ?_⟩))))
    refine awp_rounds (α := Nat) (fun x => [(7, true, .int x)]) [3, 4, 5, 6] (fun x => [.row 3 (.ints (solK n m 1 x))]) (fun x => x ≤ n + 1) (fun x => n + 1 - x) 0 (by ((try simp only [xk]); (repeat (refine leK_cons ?_ ?_; first | (focus (first | rfl | (simp only [xr, simprocAttr]; done) | (simp only [xr, simprocAttr]; refine int_eq1 ?_; first | trivial | (unfold I64; omega) | omega | (simp <;> omega) | (intros; omega)))) | rotate_left)); (refine leK_nil ?_; exact (by rfl)); (all_goals (try (simp only [xr, simprocAttr]; try refine int_eq1 ?_))))) (Nat.zero_le _) fun x hx => ?_
    have hkl := solK_len n m 1 x
    simp only [xr, simprocAttr]
    (repeat (first | refine g1 ?_ | refine g2 ?_ | ((first | refine g3 ?_ | refine g4 ?_ | refine g5 ?_); try simp only [xq, simprocAttr]) | ((first | refine g6 ?_ | refine g7 ?_); simp only [xr, simprocAttr]; repeat (guard_target =~ _ ∧ _; refine ⟨by first | trivial | (unfold I64; omega) | omega | (simp <;> omega) | (intros; omega), ?_⟩))))
    refine awp_cond (by first | rfl | (simp only [xr, simprocAttr]; rfl)) (fun hd => ?_) (fun hd => ?_)
    · have hd := of_decide_eq_true hd
      have hx' : x < n + 1 := by omega
      have hnx := solK_next n m 1 x
      have hwl : (withI (n + 1) x (sysS n m)).length = n + 1 := by simp [withI]
      have hso := hsolb x
      have hdw := det_bd (by decide) (withI_sq (i := x) hS)
      (repeat (first | refine g1 ?_ | refine g2 ?_ | ((first | refine g3 ?_ | refine g4 ?_ | refine g5 ?_); try simp only [xq, simprocAttr]) | ((first | refine g6 ?_ | refine g7 ?_); simp only [xr, simprocAttr]; repeat (guard_target =~ _ ∧ _; refine ⟨by first | trivial | (unfold I64; omega) | omega | (simp <;> omega) | (intros; omega), ?_⟩))))
      refine awp_rounds (α := Nat) (fun i => [(9, true, .int i)]) [3, 4, 5, 6, 7, 8] (fun i => [.row 3 (.ints (solK n m 1 x)), .row 36 (.ii ((withI (n + 1) x (sysS n m)).take i))]) (fun i => i ≤ n + 1) (fun i => n + 1 - i) 0 (by ((try simp only [xk]); (repeat (refine leK_cons ?_ ?_; first | (focus (first | rfl | (simp only [xr, simprocAttr]; done) | (simp only [xr, simprocAttr]; refine int_eq1 ?_; first | trivial | (unfold I64; omega) | omega | (simp <;> omega) | (intros; omega)))) | rotate_left)); (refine leK_nil ?_; exact (by rfl)); (all_goals (try (simp only [xr, simprocAttr]; try refine int_eq1 ?_))))) (Nat.zero_le _) fun i hi => ?_
      have hil : ((withI (n + 1) x (sysS n m)).take i).length ≤ i := by rw [List.length_take]; omega
      simp only [xr, simprocAttr]
      (repeat (first | refine g1 ?_ | refine g2 ?_ | ((first | refine g3 ?_ | refine g4 ?_ | refine g5 ?_); try simp only [xq, simprocAttr]) | ((first | refine g6 ?_ | refine g7 ?_); simp only [xr, simprocAttr]; repeat (guard_target =~ _ ∧ _; refine ⟨by first | trivial | (unfold I64; omega) | omega | (simp <;> omega) | (intros; omega), ?_⟩))))
      refine awp_cond (by first | rfl | (simp only [xr, simprocAttr]; rfl)) (fun he => ?_) (fun he => ?_)
      · have he := of_decide_eq_true he
        have hi' : i < n + 1 := by omega
        have hri : ((sysS n m).getD i []).length = n + 1 := by rw [getD_inQ (by omega)]; exact hS.row _ (List.getElem_mem _)
        have hnw := withI_next (n := n + 1) (i := x) (s := sysS n m) hi'
        (repeat (first | refine g1 ?_ | refine g2 ?_ | ((first | refine g3 ?_ | refine g4 ?_ | refine g5 ?_); try simp only [xq, simprocAttr]) | ((first | refine g6 ?_ | refine g7 ?_); simp only [xr, simprocAttr]; repeat (guard_target =~ _ ∧ _; refine ⟨by first | trivial | (unfold I64; omega) | omega | (simp <;> omega) | (intros; omega), ?_⟩))))
        refine awp_cond (by first | rfl | (simp only [xr, simprocAttr]; rfl)) (fun hq => ?_) (fun hq => ?_)
        · have hq := of_decide_eq_true hq
          rw [if_pos (by omega)] at hnw
          (repeat (first | refine g1 ?_ | refine g2 ?_ | ((first | refine g3 ?_ | refine g4 ?_ | refine g5 ?_); try simp only [xq, simprocAttr]) | ((first | refine g6 ?_ | refine g7 ?_); simp only [xr, simprocAttr]; repeat (guard_target =~ _ ∧ _; refine ⟨by first | trivial | (unfold I64; omega) | omega | (simp <;> omega) | (intros; omega), ?_⟩))))
          ((try refine Or.inl ?_); refine ⟨_, (l4With_d ((sysS n m).getD i []) x 1 (by omega) (by omega)), .inr (by and_intros <;> first | rfl | (simp; done)), ?_⟩; (try simp only [xr, simprocAttr]); repeat (guard_target =~ _ ∧ _; refine ⟨by first | trivial | (unfold I64; omega) | omega | (simp <;> omega) | (intros; omega), ?_⟩))
          (repeat (first | refine g1 ?_ | refine g2 ?_ | ((first | refine g3 ?_ | refine g4 ?_ | refine g5 ?_); try simp only [xq, simprocAttr]) | ((first | refine g6 ?_ | refine g7 ?_); simp only [xr, simprocAttr]; repeat (guard_target =~ _ ∧ _; refine ⟨by first | trivial | (unfold I64; omega) | omega | (simp <;> omega) | (intros; omega), ?_⟩))))
          refine ⟨i + 1, by omega, by omega, .inl ?_⟩
          ((try simp only [xk]); (repeat (refine leK_cons ?_ ?_; first | (focus (first | rfl | (simp only [xr, simprocAttr]; done) | (simp only [xr, simprocAttr]; refine int_eq1 ?_; first | trivial | (unfold I64; omega) | omega | (simp <;> omega) | (intros; omega)))) | rotate_left)); (refine leK_nil ?_; exact (by rw [hnw])); (all_goals (try (simp only [xr, simprocAttr]; try refine int_eq1 ?_))))
        · have hq := of_decide_eq_false hq
          rw [if_neg (by omega)] at hnw
          (repeat (first | refine g1 ?_ | refine g2 ?_ | ((first | refine g3 ?_ | refine g4 ?_ | refine g5 ?_); try simp only [xq, simprocAttr]) | ((first | refine g6 ?_ | refine g7 ?_); simp only [xr, simprocAttr]; repeat (guard_target =~ _ ∧ _; refine ⟨by first | trivial | (unfold I64; omega) | omega | (simp <;> omega) | (intros; omega), ?_⟩))))
          ((try refine Or.inl ?_); refine ⟨_, (l4With_d ((sysS n m).getD i []) x 0 (by omega) (by omega)), .inr (by and_intros <;> first | rfl | (simp; done)), ?_⟩; (try simp only [xr, simprocAttr]); repeat (guard_target =~ _ ∧ _; refine ⟨by first | trivial | (unfold I64; omega) | omega | (simp <;> omega) | (intros; omega), ?_⟩))
          (repeat (first | refine g1 ?_ | refine g2 ?_ | ((first | refine g3 ?_ | refine g4 ?_ | refine g5 ?_); try simp only [xq, simprocAttr]) | ((first | refine g6 ?_ | refine g7 ?_); simp only [xr, simprocAttr]; repeat (guard_target =~ _ ∧ _; refine ⟨by first | trivial | (unfold I64; omega) | omega | (simp <;> omega) | (intros; omega), ?_⟩))))
          refine ⟨i + 1, by omega, by omega, .inl ?_⟩
          ((try simp only [xk]); (repeat (refine leK_cons ?_ ?_; first | (focus (first | rfl | (simp only [xr, simprocAttr]; done) | (simp only [xr, simprocAttr]; refine int_eq1 ?_; first | trivial | (unfold I64; omega) | omega | (simp <;> omega) | (intros; omega)))) | rotate_left)); (refine leK_nil ?_; exact (by rw [hnw])); (all_goals (try (simp only [xr, simprocAttr]; try refine int_eq1 ?_))))
      · have he := of_decide_eq_false he
        obtain rfl : i = n + 1 := by omega
        rw [List.take_of_length_le (by omega)]
        (repeat (first | refine g1 ?_ | refine g2 ?_ | ((first | refine g3 ?_ | refine g4 ?_ | refine g5 ?_); try simp only [xq, simprocAttr]) | ((first | refine g6 ?_ | refine g7 ?_); simp only [xr, simprocAttr]; repeat (guard_target =~ _ ∧ _; refine ⟨by first | trivial | (unfold I64; omega) | omega | (simp <;> omega) | (intros; omega), ?_⟩))))
        ((try refine Or.inl ?_); refine ⟨_, (l11Det_d (n + 1) (by omega) (withI (n + 1) x (sysS n m)) (withI_sq hS)), .inl rfl, ?_⟩; (try simp only [xr, simprocAttr]); repeat (guard_target =~ _ ∧ _; refine ⟨by first | trivial | (unfold I64; omega) | omega | (simp <;> omega) | (intros; omega), ?_⟩))
        (repeat (first | refine g1 ?_ | refine g2 ?_ | ((first | refine g3 ?_ | refine g4 ?_ | refine g5 ?_); try simp only [xq, simprocAttr]) | ((first | refine g6 ?_ | refine g7 ?_); simp only [xr, simprocAttr]; repeat (guard_target =~ _ ∧ _; refine ⟨by first | trivial | (unfold I64; omega) | omega | (simp <;> omega) | (intros; omega), ?_⟩))))
        refine ⟨x + 1, by omega, by omega, .inr ⟨1, Nat.le_of_ble_eq_true rfl, leT_of ?_ rfl rfl rfl⟩⟩
        ((try simp only [xk]); (repeat (refine leK_cons ?_ ?_; first | (focus (first | rfl | (simp only [xr, simprocAttr]; done) | (simp only [xr, simprocAttr]; refine int_eq1 ?_; first | trivial | (unfold I64; omega) | omega | (simp <;> omega) | (intros; omega)))) | rotate_left)); (refine leK_nil ?_; exact (by rw [hnx]; rfl)); (all_goals (try (simp only [xr, simprocAttr]; try refine int_eq1 ?_))))
    · have hd := of_decide_eq_false hd
      obtain rfl : x = n + 1 := by omega
      (repeat (first | refine g1 ?_ | refine g2 ?_ | ((first | refine g3 ?_ | refine g4 ?_); try simp only [xq, simprocAttr]) | ((first | refine g6 ?_ | refine g7 ?_); simp only [xr, simprocAttr]; repeat (guard_target =~ _ ∧ _; refine ⟨by first | trivial | (unfold I64; omega) | omega | (simp <;> omega) | (intros; omega), ?_⟩))))
      (refine awp_frz 0 rfl ?_; simp only [xz, simprocAttr])
      (repeat (first | refine g1 ?_ | refine g2 ?_ | ((first | refine g3 ?_ | refine g4 ?_ | refine g5 ?_); try simp only [xq, simprocAttr]) | ((first | refine g6 ?_ | refine g7 ?_); simp only [xr, simprocAttr]; repeat (guard_target =~ _ ∧ _; refine ⟨by first | trivial | (unfold I64; omega) | omega | (simp <;> omega) | (intros; omega), ?_⟩))))
      (simp only [xe, simprocAttr]; refine ⟨_, rfl, rfl, Imp.eq ?_⟩)
      rfl
end Go.Proofs.Ytpihfeganpdjiaa
