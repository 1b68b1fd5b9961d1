/- Solved matrices, in plain Lean: choices of rows and columns, parts, spread numbers, sums of columns. -/
import Derived.Test.YtpihfeganpdjiaaSOA
import Derived.Test.YtpihfeganpdjiaaFr0
set_option linter.all false
set_option linter.unusedSimpArgs false
set_option linter.unusedVariables false
namespace Go.Proofs.Ytpihfeganpdjiaa

/-- the program's choices: so many numbers below n, from one on, in ascending order -/
def subs (n : Nat) : Nat → Nat → List (List Int)
  | 0, _ => [[]]
  | k + 1, f => (List.range' f (n - f)).flatMap fun i => (subs n k (i + 1)).map ((i : Int) :: ·)
/-- the reference's choices -/
def chOK (i : Nat) (r : List Int) : Bool := decide (r.length = 0) || decide (r.getD 0 0 > (i : Int))
def chs (n : Nat) : Nat → List (List Int)
  | 0 => [[]]
  | k + 1 => (List.range n).flatMap fun i => ((chs n k).filter (chOK i)).map ((i : Int) :: ·)
/-- the reference's choices up to a first number -/
def chN (n k i : Nat) : List (List Int) := (List.range i).flatMap fun i => ((chs n k).filter (chOK i)).map ((i : Int) :: ·)
theorem chN_next (n k i : Nat) : chN n k (i + 1) = chN n k i ++ ((chs n k).filter (chOK i)).map ((i : Int) :: ·) := by
  unfold chN
  rw [List.range_succ, List.flatMap_append]
  simp
theorem chs_eq : ∀ n, n < 4 → ∀ k, k < 4 → chs n k = subs n k 0 := by decide
theorem chs_len : ∀ n, n < 4 → ∀ k, k < 4 → (chs n k).length ≤ 3 := by decide
theorem chN_len : ∀ n, n < 4 → ∀ k, k < 3 → ∀ i, i < 4 → (chN n k i).length ≤ 20 := by decide
theorem chs_row : ∀ n, n < 4 → ∀ k, k < 4 → ∀ r ∈ chs n k, r.length = k ∧ ∀ x ∈ r, 0 ≤ x ∧ x < n := by decide
theorem subs_len : ∀ n, n < 4 → ∀ k, k < 4 → ∀ f, f < 5 → (subs n k f).length ≤ 3 := by decide
theorem subs_row : ∀ n, n < 4 → ∀ k, k < 4 → ∀ f, f < 5 → ∀ r ∈ subs n k f, r.length = k := by decide
theorem filt_take {α : Type} (p : α → Bool) (g : α → List Int) (xs : List α) (d : α) {j : Nat} (h : j < xs.length) : ((xs.take (j + 1)).filter p).map g = ((xs.take j).filter p).map g ++ (if p (xs.getD j d) = true then [g (xs.getD j d)] else []) := by
  rw [take_getD h d, List.filter_append, List.map_append]
  congr 1
  generalize xs.getD j d = y
  by_cases hp : p y = true
  · rw [if_pos hp, List.filter_cons_of_pos hp]; rfl
  · rw [if_neg hp, List.filter_cons_of_neg hp]; rfl
/-- some rows and columns of a matrix -/
def partR (m : List (List Int)) (r : Int) (cs : List Int) : List Int := cs.map fun c => at2L m r.toNat c.toNat
def partL (m : List (List Int)) (rs cs : List Int) : List (List Int) := rs.map fun r => partR m r cs
theorem partR_next (m : List (List Int)) (r : Int) {cs : List Int} {k : Nat} (h : k < cs.length) : (partR m r cs).take (k + 1) = (partR m r cs).take k ++ [at2L m r.toNat (cs.getD k 0).toNat] := by
  unfold partR
  rw [← List.map_take, ← List.map_take, take_getD h 0, List.map_append]
  rfl
theorem partL_next (m : List (List Int)) {rs : List Int} (cs : List Int) {k : Nat} (h : k < rs.length) : (partL m rs cs).take (k + 1) = (partL m rs cs).take k ++ [partR m (rs.getD k 0) cs] := by
  unfold partL
  rw [← List.map_take, ← List.map_take, take_getD h 0, List.map_append]
  rfl
theorem partR_len (m : List (List Int)) (r : Int) (cs : List Int) : (partR m r cs).length = cs.length := by simp [partR]
theorem partL_len (m : List (List Int)) (rs cs : List Int) : (partL m rs cs).length = rs.length := by simp [partL]
/-- numbers in some places of a longer list of noughts, the first k -/
def spN (n : Nat) (xs ps : List Int) : Nat → List Int
  | 0 => List.replicate n 0
  | k + 1 => (spN n xs ps k).set (ps.getD k 0).toNat (xs.getD k 0)
theorem spN_len (n : Nat) (xs ps : List Int) : ∀ k, (spN n xs ps k).length = n
  | 0 => by simp [spN]
  | k + 1 => by simp [spN, spN_len n xs ps k]
def spL (n : Nat) (xs ps : List Int) : List Int := spN n xs ps ps.length
theorem spL_len (n : Nat) (xs ps : List Int) : (spL n xs ps).length = n := spN_len n xs ps _
/-- the sums of the columns, up to a row and a column -/
def pF (m : List (List Int)) (ws : List Int) (j i : Nat) : Int := smD (fun i => ws.getD i 0 * at2L m i j) i
def prN (m : List (List Int)) (ws : List Int) (c i k : Nat) : List Int := (List.range c).map fun j => pF m ws j (if j < k then i + 1 else i)
def prL (m : List (List Int)) (ws : List Int) (c : Nat) : List Int := (List.range c).map fun j => pF m ws j m.length
theorem prN_len (m : List (List Int)) (ws : List Int) (c i k : Nat) : (prN m ws c i k).length = c := by simp [prN]
theorem prN_0 (m : List (List Int)) (ws : List Int) (c : Nat) : List.replicate c 0 = prN m ws c 0 0 := by
  refine List.ext_getElem (by simp [prN]) fun j h1 h2 => ?_
  simp [prN, pF, smD]
theorem prN_all (m : List (List Int)) (ws : List Int) (c i : Nat) : prN m ws c i c = prN m ws c (i + 1) 0 := by
  refine List.ext_getElem (by simp [prN]) fun j h1 h2 => ?_
  have : j < c := by simpa [prN] using h1
  simp [prN, this]
theorem prN_end (m : List (List Int)) (ws : List Int) (c : Nat) : prN m ws c m.length 0 = prL m ws c := by simp [prN, prL]
theorem prN_at {m : List (List Int)} {ws : List Int} {c i k : Nat} (h : k < c) : (prN m ws c i k).getD k 0 = pF m ws k i := by
  rw [getD_inQ (by rw [prN_len]; exact h)]
  simp [prN]
theorem prN_set {m : List (List Int)} {ws : List Int} {c i k : Nat} (h : k < c) : (prN m ws c i k).set k (pF m ws k i + ws.getD i 0 * at2L m i k) = prN m ws c i (k + 1) := by
  refine List.ext_getElem (by simp [prN]) fun j h1 h2 => ?_
  rw [List.getElem_set]
  by_cases he : k = j
  · subst he
    rw [if_pos rfl]
    simp [prN, pF, smD]
  · rw [if_neg he]
    simp only [prN, List.getElem_map, List.getElem_range]
    congr 1
    by_cases hj : j < k
    · rw [if_pos hj, if_pos (by omega)]
    · rw [if_neg hj, if_neg (by omega)]
/-- numbers that have no fractions beyond the model's reach -/
def BdL (B : Int) (xs : List Int) : Prop := ∀ k, -B ≤ xs.getD k 0 ∧ xs.getD k 0 ≤ B
/-- a matrix -/
structure MatQ (m : List (List Int)) (c : Nat) : Prop where
  l0 : 0 < m.length
  l3 : m.length ≤ 3
  c0 : 0 < c
  c3 : c ≤ 3
  row : ∀ r ∈ m, r.length = c
  bd : ∀ r ∈ m, ∀ x ∈ r, -40 ≤ x ∧ x ≤ 40
theorem MatQ.at {m : List (List Int)} {c : Nat} (h : MatQ m c) (i j : Nat) : -40 ≤ at2L m i j ∧ at2L m i j ≤ 40 := by
  unfold at2L
  rw [List.getD_eq_getElem?_getD, List.getD_eq_getElem?_getD]
  cases h1 : m[i]? with
  | none => simp
  | some r =>
    simp only [Option.getD_some]
    cases h2 : r[j]? with
    | none => simp
    | some x => exact h.bd r (List.mem_of_getElem? h1) x (List.mem_of_getElem? h2)
theorem MatQ.len {m : List (List Int)} {c : Nat} (h : MatQ m c) {i : Nat} (hi : i < m.length) : (m.getD i []).length = c := by rw [getD_inQ hi]; exact h.row _ (List.getElem_mem _)
theorem pF_bd {m : List (List Int)} {ws : List Int} {B : Int} {c : Nat} (h : MatQ m c) (hw : BdL B ws) (j : Nat) {i : Nat} (hi : i ≤ 3) (hB : 0 ≤ B) : -(120 * B) ≤ pF m ws j i ∧ pF m ws j i ≤ 120 * B := by
  have h1 := smD_abs (f := fun i => ws.getD i 0 * at2L m i j) (B := B * 40) (n := i) fun k _ => mul_abs (hw k) (h.at k j)
  have h2 : (i : Int) * (B * 40) ≤ 3 * (B * 40) := Int.mul_le_mul_of_nonneg_right (by omega) (by omega)
  unfold pF
  omega
theorem term_bd {m : List (List Int)} {ws : List Int} {B : Int} {c : Nat} (h : MatQ m c) (hw : BdL B ws) (i j : Nat) : -(B * 40) ≤ ws.getD i 0 * at2L m i j ∧ ws.getD i 0 * at2L m i j ≤ B * 40 := mul_abs (hw i) (h.at i j)
theorem spN_bd {B : Int} (hB : 0 ≤ B) (n : Nat) {xs : List Int} (ps : List Int) (hx : BdL B xs) : ∀ k, BdL B (spN n xs ps k)
  | 0 => fun j => by
    show -B ≤ (List.replicate n (0 : Int)).getD j 0 ∧ (List.replicate n (0 : Int)).getD j 0 ≤ B
    rw [List.getD_eq_getElem?_getD, List.getElem?_replicate]
    split <;> simp <;> omega
  | k + 1 => fun j => by
    show -B ≤ ((spN n xs ps k).set _ _).getD j 0 ∧ ((spN n xs ps k).set _ _).getD j 0 ≤ B
    have h1 := spN_bd hB n ps hx k j
    have h2 := hx k
    rw [List.getD_eq_getElem?_getD] at h1 ⊢
    rw [List.getElem?_set]
    split
    · split
      · simpa using h2
      · simp; omega
    · exact h1
theorem part_sq {m : List (List Int)} {c k : Nat} (h : MatQ m c) {rs cs : List Int} (h1 : rs.length = k) (h2 : cs.length = k) : SqM k 40 (partL m rs cs) := by
  refine ⟨by rw [partL_len, h1], fun r hr => ?_, fun r hr x hx => ?_⟩
  · obtain ⟨i, _, rfl⟩ := List.mem_map.1 hr
    rw [partR_len, h2]
  · obtain ⟨i, _, rfl⟩ := List.mem_map.1 hr
    obtain ⟨j, _, rfl⟩ := List.mem_map.1 hx
    exact h.at _ _
end Go.Proofs.Ytpihfeganpdjiaa
/- Solved matrices, on the machine: the reference's choices, parts, spread numbers, sums and fractions. -/
set_option linter.all false
set_option linter.unusedSimpArgs false
set_option linter.unusedVariables false
namespace Go.Proofs.Ytpihfeganpdjiaa
open Go Go.RowKit Am

theorem l4Front_d (r : List Int) (x : Int) (hr : r.length ≤ 1000) : Does Try.prog 31 [.sl (.ints r), .int x] (.imm (.sl (.ints (x :: r)))) := by
  refine spec_imm Try.func31 rfl Try.ntmps31 cfOK (fun _ _ => by kernel_rfl) rfl (Nat.le_of_ble_eq_true rfl) ?_
  intro M0 w0
  rw [Try.results31]
  ((repeat (first | refine g1 ?_ | refine g2 ?_ | ((first | refine g3 ?_ | refine g4 ?_); try simp only [xq, simprocAttr]))); ((first | refine g6 ?_ | refine g7 ?_); simp only [xr, simprocAttr]; repeat (guard_target =~ _ ∧ _; refine ⟨by first | trivial | (unfold I64; omega) | omega | (simp <;> omega) | (intros; omega), ?_⟩)); (repeat (first | refine g1 ?_ | refine g2 ?_ | ((first | refine g3 ?_ | refine g4 ?_); try simp only [xq, simprocAttr]))))
  ((repeat (first | refine g1 ?_ | refine g2 ?_ | ((first | refine g3 ?_ | refine g4 ?_); try simp only [xq, simprocAttr]))); refine awp_regO [false, true] ?_; simp only [xr, simprocAttr]; repeat (guard_target =~ _ ∧ _; refine ⟨by first | trivial | (unfold I64; omega) | omega | (simp <;> omega) | (intros; omega), ?_⟩))
  (repeat (first | refine g1 ?_ | refine g2 ?_ | ((first | refine g3 ?_ | refine g4 ?_); try simp only [xq, simprocAttr]) | ((first | refine g6 ?_ | refine g7 ?_); simp only [xr, simprocAttr]; repeat (guard_target =~ _ ∧ _; refine ⟨by first | trivial | (unfold I64; omega) | omega | (simp <;> omega) | (intros; omega), ?_⟩))))
  (refine awp_frz 0 rfl ?_; simp only [xz, simprocAttr])
  (repeat (first | refine g1 ?_ | refine g2 ?_ | ((first | refine g3 ?_ | refine g4 ?_ | refine g5 ?_); try simp only [xq, simprocAttr]) | ((first | refine g6 ?_ | refine g7 ?_); simp only [xr, simprocAttr]; repeat (guard_target =~ _ ∧ _; refine ⟨by first | trivial | (unfold I64; omega) | omega | (simp <;> omega) | (intros; omega), ?_⟩))))
  (simp only [xe, simprocAttr]; refine ⟨_, rfl, rfl, Imp.eq ?_⟩)
  rfl
set_option maxHeartbeats 2000000 in
theorem l11Choices_d (n : Nat) (hn : n < 4) : ∀ k : Nat, k < 4 → Does Try.prog 17 [.int n, .int k] (.imm (.sl (.ii (chs n k))))
  | 0, _ => by
    refine spec_imm Try.func17 rfl Try.ntmps17 cfOK (fun _ _ => by kernel_rfl) rfl (Nat.le_of_ble_eq_true rfl) ?_
    intro M0 w0
    rw [Try.results17]
    (repeat (first | refine g1 ?_ | refine g2 ?_ | ((first | refine g3 ?_ | refine g4 ?_ | refine g5 ?_); try simp only [xq, simprocAttr]) | ((first | refine g6 ?_ | refine g7 ?_); simp only [xr, simprocAttr]; repeat (guard_target =~ _ ∧ _; refine ⟨by first | trivial | (unfold I64; omega) | omega | (simp <;> omega) | (intros; omega), ?_⟩))))
    refine awp_cond (by first | rfl | (simp only [xr, simprocAttr]; rfl)) (fun hc => ?_) (fun hc => ?_)
    · (repeat (first | refine g1 ?_ | refine g2 ?_ | ((first | refine g3 ?_ | refine g4 ?_); try simp only [xq, simprocAttr]) | ((first | refine g6 ?_ | refine g7 ?_); simp only [xr, simprocAttr]; repeat (guard_target =~ _ ∧ _; refine ⟨by first | trivial | (unfold I64; omega) | omega | (simp <;> omega) | (intros; omega), ?_⟩))))
      (refine awp_frzT 2 rfl ?_; simp only [xz, simprocAttr])
      (repeat (first | refine g1 ?_ | refine g2 ?_ | ((first | refine g3 ?_ | refine g4 ?_ | refine g5 ?_); try simp only [xq, simprocAttr]) | ((first | refine g6 ?_ | refine g7 ?_); simp only [xr, simprocAttr]; repeat (guard_target =~ _ ∧ _; refine ⟨by first | trivial | (unfold I64; omega) | omega | (simp <;> omega) | (intros; omega), ?_⟩))))
      (simp only [xe, simprocAttr]; refine ⟨_, rfl, rfl, Imp.eq ?_⟩)
      rfl
    · exact absurd hc (by decide)
  | k + 1, hk => by
    have ih := l11Choices_d n hn k (by omega)
    have hrl := chs_len n hn k (by omega)
    refine spec_imm Try.func17 rfl Try.ntmps17 cfOK (fun _ _ => by kernel_rfl) rfl (Nat.le_of_ble_eq_true rfl) ?_
    intro M0 w0
    rw [Try.results17]
    (repeat (first | refine g1 ?_ | refine g2 ?_ | ((first | refine g3 ?_ | refine g4 ?_ | refine g5 ?_); try simp only [xq, simprocAttr]) | ((first | refine g6 ?_ | refine g7 ?_); simp only [xr, simprocAttr]; repeat (guard_target =~ _ ∧ _; refine ⟨by first | trivial | (unfold I64; omega) | omega | (simp <;> omega) | (intros; omega), ?_⟩))))
    refine awp_cond (by first | rfl | (simp only [xr, simprocAttr]; rfl)) (fun hc => ?_) (fun hc => ?_)
    · have hc := of_decide_eq_true hc
      omega
    (repeat (first | refine g1 ?_ | refine g2 ?_ | ((first | refine g3 ?_ | refine g4 ?_ | refine g5 ?_); try simp only [xq, simprocAttr]) | ((first | refine g6 ?_ | refine g7 ?_); simp only [xr, simprocAttr]; repeat (guard_target =~ _ ∧ _; refine ⟨by first | trivial | (unfold I64; omega) | omega | (simp <;> omega) | (intros; omega), ?_⟩))))
    refine awp_rounds (α := Nat) (fun i => [(6, true, .int i)]) [0, 1, 5] (fun i => [.row 36 (.ii (chN n k i))]) (fun i => i ≤ n) (fun i => n - i) 0 (by ((try simp only [xk]); (repeat (refine leK_cons ?_ ?_; first | (focus (first | rfl | (simp only [xr, simprocAttr]; done) | (simp only [xr, simprocAttr]; refine int_eq1 ?_; first | trivial | (unfold I64; omega) | omega | (simp <;> omega) | (intros; omega)))) | rotate_left)); (refine leK_nil ?_; exact (by rfl)); (all_goals (try (simp only [xr, simprocAttr]; try refine int_eq1 ?_))))) (Nat.zero_le _) fun i hi => ?_
    have hcl := chN_len n hn k (by omega) i (by omega)
    simp only [xr, simprocAttr]
    (repeat (first | refine g1 ?_ | refine g2 ?_ | ((first | refine g3 ?_ | refine g4 ?_ | refine g5 ?_); try simp only [xq, simprocAttr]) | ((first | refine g6 ?_ | refine g7 ?_); simp only [xr, simprocAttr]; repeat (guard_target =~ _ ∧ _; refine ⟨by first | trivial | (unfold I64; omega) | omega | (simp <;> omega) | (intros; omega), ?_⟩))))
    refine awp_cond (by first | rfl | (simp only [xr, simprocAttr]; rfl)) (fun hd => ?_) (fun hd => ?_)
    · have hd := of_decide_eq_true hd
      have hi' : i < n := by omega
      have hnx := chN_next n k i
      (repeat (first | refine g1 ?_ | refine g2 ?_ | ((first | refine g3 ?_ | refine g4 ?_ | refine g5 ?_); try simp only [xq, simprocAttr]) | ((first | refine g6 ?_ | refine g7 ?_); simp only [xr, simprocAttr]; repeat (guard_target =~ _ ∧ _; refine ⟨by first | trivial | (unfold I64; omega) | omega | (simp <;> omega) | (intros; omega), ?_⟩))))
      rw [show ((k + 1 : Nat) : Int) - 1 = (k : Int) by omega]
      ((try refine Or.inl ?_); refine ⟨_, ih, .inr (by and_intros <;> first | rfl | (simp; done)), ?_⟩; (try simp only [xr, simprocAttr]); repeat (guard_target =~ _ ∧ _; refine ⟨by first | trivial | (unfold I64; omega) | omega | (simp <;> omega) | (intros; omega), ?_⟩))
      (repeat (first | refine g1 ?_ | refine g2 ?_ | ((first | refine g3 ?_ | refine g4 ?_ | refine g5 ?_); try simp only [xq, simprocAttr]) | ((first | refine g6 ?_ | refine g7 ?_); simp only [xr, simprocAttr]; repeat (guard_target =~ _ ∧ _; refine ⟨by first | trivial | (unfold I64; omega) | omega | (simp <;> omega) | (intros; omega), ?_⟩))))
      refine awp_rounds (α := Nat) (fun j => [(8, true, .int j)]) [0, 1, 5, 6, 7] (fun j => [.row 36 (.ii (chN n k i ++ (((chs n k).take j).filter (chOK i)).map ((i : Int) :: ·)))]) (fun j => j ≤ (chs n k).length) (fun j => (chs n k).length - j) 0 (by ((try simp only [xk]); (repeat (refine leK_cons ?_ ?_; first | (focus (first | rfl | (simp only [xr, simprocAttr]; done) | (simp only [xr, simprocAttr]; refine int_eq1 ?_; first | trivial | (unfold I64; omega) | omega | (simp <;> omega) | (intros; omega)))) | rotate_left)); (refine leK_nil ?_; exact (by simp)); (all_goals (try (simp only [xr, simprocAttr]; try refine int_eq1 ?_))))) (Nat.zero_le _) fun j hj => ?_
      have hfl : ((((chs n k).take j).filter (chOK i)).map ((i : Int) :: ·)).length ≤ 3 := by
        rw [List.length_map]
        refine Nat.le_trans (List.length_filter_le _ _) ?_
        rw [List.length_take]; omega
      have hal : (chN n k i ++ (((chs n k).take j).filter (chOK i)).map ((i : Int) :: ·)).length ≤ 23 := by rw [List.length_append]; omega
      simp only [xr, simprocAttr]
      (repeat (first | refine g1 ?_ | refine g2 ?_ | ((first | refine g3 ?_ | refine g4 ?_ | refine g5 ?_); try simp only [xq, simprocAttr]) | ((first | refine g6 ?_ | refine g7 ?_); simp only [xr, simprocAttr]; repeat (guard_target =~ _ ∧ _; refine ⟨by first | trivial | (unfold I64; omega) | omega | (simp <;> omega) | (intros; omega), ?_⟩))))
      refine awp_cond (by first | rfl | (simp only [xr, simprocAttr]; rfl)) (fun he => ?_) (fun he => ?_)
      · have he := of_decide_eq_true he
        have hj' : j < (chs n k).length := by omega
        have hrow := chs_row n hn k (by omega) ((chs n k).getD j []) (by rw [getD_inQ hj']; exact List.getElem_mem _)
        have hft := filt_take (chOK i) ((i : Int) :: ·) (chs n k) [] hj'
        (repeat (first | refine g1 ?_ | refine g2 ?_ | ((first | refine g3 ?_ | refine g4 ?_ | refine g5 ?_); try simp only [xq, simprocAttr]) | ((first | refine g6 ?_ | refine g7 ?_); simp only [xr, simprocAttr]; repeat (guard_target =~ _ ∧ _; refine ⟨by first | trivial | (unfold I64; omega) | omega | (simp <;> omega) | (intros; omega), ?_⟩))))
        have hg : (!decide ((((chs n k).getD j []).length : Int) = 0)) = true → 1 ≠ 0 ∧ (0 : Int) < (((chs n k).getD j []).length : Int) := fun h => by
          have h := of_decide_eq_false (Bool.not_eq_true' _ ▸ h)
          exact ⟨by decide, by omega⟩
        refine ⟨hg, ?_⟩
        (repeat (first | refine g1 ?_ | refine g2 ?_ | ((first | refine g3 ?_ | refine g4 ?_ | refine g5 ?_); try simp only [xq, simprocAttr]) | ((first | refine g6 ?_ | refine g7 ?_); simp only [xr, simprocAttr]; repeat (guard_target =~ _ ∧ _; refine ⟨by first | trivial | (unfold I64; omega) | omega | (simp <;> omega) | (intros; omega), ?_⟩))))
        refine ⟨fun h => by rw [h]; rfl, ?_⟩
        refine awp_cond (by first | rfl | (simp only [xr, simprocAttr]; rfl)) (fun hq => ?_) (fun hq => ?_)
        · have hq : chOK i ((chs n k).getD j []) = true := by simpa [chOK] using hq
          rw [if_pos hq] at hft
          (repeat (first | refine g1 ?_ | refine g2 ?_ | ((first | refine g3 ?_ | refine g4 ?_ | refine g5 ?_); try simp only [xq, simprocAttr]) | ((first | refine g6 ?_ | refine g7 ?_); simp only [xr, simprocAttr]; repeat (guard_target =~ _ ∧ _; refine ⟨by first | trivial | (unfold I64; omega) | omega | (simp <;> omega) | (intros; omega), ?_⟩))))
          ((try refine Or.inl ?_); refine ⟨_, (l4Front_d ((chs n k).getD j []) i (by omega)), .inr (by and_intros <;> first | rfl | (simp; done)), ?_⟩; (try simp only [xr, simprocAttr]); repeat (guard_target =~ _ ∧ _; refine ⟨by first | trivial | (unfold I64; omega) | omega | (simp <;> omega) | (intros; omega), ?_⟩))
          (repeat (first | refine g1 ?_ | refine g2 ?_ | ((first | refine g3 ?_ | refine g4 ?_ | refine g5 ?_); try simp only [xq, simprocAttr]) | ((first | refine g6 ?_ | refine g7 ?_); simp only [xr, simprocAttr]; repeat (guard_target =~ _ ∧ _; refine ⟨by first | trivial | (unfold I64; omega) | omega | (simp <;> omega) | (intros; omega), ?_⟩))))
          refine ⟨j + 1, by omega, by omega, .inr ⟨1, Nat.le_of_ble_eq_true rfl, leT_of ?_ rfl rfl rfl⟩⟩
          ((try simp only [xk]); (repeat (refine leK_cons ?_ ?_; first | (focus (first | rfl | (simp only [xr, simprocAttr]; done) | (simp only [xr, simprocAttr]; refine int_eq1 ?_; first | trivial | (unfold I64; omega) | omega | (simp <;> omega) | (intros; omega)))) | rotate_left)); (refine leK_nil ?_; exact (by rw [hft, List.append_assoc]; rfl)); (all_goals (try (simp only [xr, simprocAttr]; try refine int_eq1 ?_))))
        · have hq : ¬chOK i ((chs n k).getD j []) = true := by simpa [chOK] using hq
          rw [if_neg hq, List.append_nil] at hft
          (repeat (first | refine g1 ?_ | refine g2 ?_ | ((first | refine g3 ?_ | refine g4 ?_ | refine g5 ?_); try simp only [xq, simprocAttr]) | ((first | refine g6 ?_ | refine g7 ?_); simp only [xr, simprocAttr]; repeat (guard_target =~ _ ∧ _; refine ⟨by first | trivial | (unfold I64; omega) | omega | (simp <;> omega) | (intros; omega), ?_⟩))))
          refine ⟨j + 1, by omega, by omega, .inr ⟨1, Nat.le_of_ble_eq_true rfl, leT_of ?_ rfl rfl rfl⟩⟩
          ((try simp only [xk]); (repeat (refine leK_cons ?_ ?_; first | (focus (first | rfl | (simp only [xr, simprocAttr]; done) | (simp only [xr, simprocAttr]; refine int_eq1 ?_; first | trivial | (unfold I64; omega) | omega | (simp <;> omega) | (intros; omega)))) | rotate_left)); (refine leK_nil ?_; exact (by rw [hft]; rfl)); (all_goals (try (simp only [xr, simprocAttr]; try refine int_eq1 ?_))))
      · have he := of_decide_eq_false he
        obtain rfl : j = (chs n k).length := by omega
        rw [List.take_length, ← hnx]
        (repeat (first | refine g1 ?_ | refine g2 ?_ | ((first | refine g3 ?_ | refine g4 ?_ | refine g5 ?_); try simp only [xq, simprocAttr]) | ((first | refine g6 ?_ | refine g7 ?_); simp only [xr, simprocAttr]; repeat (guard_target =~ _ ∧ _; refine ⟨by first | trivial | (unfold I64; omega) | omega | (simp <;> omega) | (intros; omega), ?_⟩))))
        refine ⟨i + 1, by omega, by omega, .inr ⟨1, Nat.le_of_ble_eq_true rfl, leT_of ?_ rfl rfl rfl⟩⟩
        ((try simp only [xk]); (repeat (refine leK_cons ?_ ?_; first | (focus (first | rfl | (simp only [xr, simprocAttr]; done) | (simp only [xr, simprocAttr]; refine int_eq1 ?_; first | trivial | (unfold I64; omega) | omega | (simp <;> omega) | (intros; omega)))) | rotate_left)); (refine leK_nil ?_; exact (by rfl)); (all_goals (try (simp only [xr, simprocAttr]; try refine int_eq1 ?_))))
    · have hd := of_decide_eq_false hd
      obtain rfl : i = n := by omega
      (repeat (first | refine g1 ?_ | refine g2 ?_ | ((first | refine g3 ?_ | refine g4 ?_); try simp only [xq, simprocAttr]) | ((first | refine g6 ?_ | refine g7 ?_); simp only [xr, simprocAttr]; repeat (guard_target =~ _ ∧ _; refine ⟨by first | trivial | (unfold I64; omega) | omega | (simp <;> omega) | (intros; omega), ?_⟩))))
      (refine awp_frz 0 rfl ?_; simp only [xz, simprocAttr])
      (repeat (first | refine g1 ?_ | refine g2 ?_ | ((first | refine g3 ?_ | refine g4 ?_ | refine g5 ?_); try simp only [xq, simprocAttr]) | ((first | refine g6 ?_ | refine g7 ?_); simp only [xr, simprocAttr]; repeat (guard_target =~ _ ∧ _; refine ⟨by first | trivial | (unfold I64; omega) | omega | (simp <;> omega) | (intros; omega), ?_⟩))))
      (simp only [xe, simprocAttr]; refine ⟨_, rfl, rfl, Imp.eq ?_⟩)
      rfl
/-- places below a number -/
structure PlQ (ps : List Int) (k n : Nat) : Prop where
  len : ps.length = k
  lt : ∀ x ∈ ps, 0 ≤ x ∧ x < n
theorem PlQ.at {ps : List Int} {k n : Nat} (h : PlQ ps k n) {j : Nat} (hj : j < k) : 0 ≤ ps.getD j 0 ∧ ps.getD j 0 < n := by
  have := h.len
  rw [getD_inQ (by omega)]
  exact h.lt _ (List.getElem_mem _)
theorem chs_pl {n k : Nat} (hn : n < 4) (hk : k < 4) {r : List Int} (hr : r ∈ chs n k) : PlQ r k n := ⟨(chs_row n hn k hk r hr).1, (chs_row n hn k hk r hr).2⟩
set_option maxHeartbeats 2000000 in
theorem l11Part_d {c k q : Nat} (m : List (List Int)) (rs cs : List Int) (h : MatQ m c) (h1 : PlQ rs k m.length) (h2 : PlQ cs q c) (hk : k ≤ 3) (hq : q ≤ 3) : Does Try.prog 19 [.sl (.ii m), .sl (.ints rs), .sl (.ints cs)] (.imm (.sl (.ii (partL m rs cs)))) := by
  have hrl := h1.len
  have hcl := h2.len
  have hl0 := h.l0
  have hl3 := h.l3
  have hc3 := h.c3
  have hpl := partL_len m rs cs
  refine spec_imm Try.func19 rfl Try.ntmps19 cfOK (fun _ _ => by kernel_rfl) rfl (Nat.le_of_ble_eq_true rfl) ?_
  intro M0 w0
  rw [Try.results19]
  (repeat (first | refine g1 ?_ | refine g2 ?_ | ((first | refine g3 ?_ | refine g4 ?_ | refine g5 ?_); try simp only [xq, simprocAttr]) | ((first | refine g6 ?_ | refine g7 ?_); simp only [xr, simprocAttr]; repeat (guard_target =~ _ ∧ _; refine ⟨by first | trivial | (unfold I64; omega) | omega | (simp <;> omega) | (intros; omega), ?_⟩))))
  refine awp_rounds (α := Nat) (fun i => [(8, true, .int i)]) [0, 1, 2, 7] (fun i => [.row 36 (.ii ((partL m rs cs).take i))]) (fun i => i ≤ k) (fun i => k - i) 0 (by ((try simp only [xk]); (repeat (refine leK_cons ?_ ?_; first | (focus (first | rfl | (simp only [xr, simprocAttr]; done) | (simp only [xr, simprocAttr]; refine int_eq1 ?_; first | trivial | (unfold I64; omega) | omega | (simp <;> omega) | (intros; omega)))) | rotate_left)); (refine leK_nil ?_; exact (by rfl)); (all_goals (try (simp only [xr, simprocAttr]; try refine int_eq1 ?_))))) (Nat.zero_le _) fun i hi => ?_
  have hil : ((partL m rs cs).take i).length ≤ i := by rw [List.length_take]; omega
  simp only [xr, simprocAttr]
  (repeat (first | refine g1 ?_ | refine g2 ?_ | ((first | refine g3 ?_ | refine g4 ?_ | refine g5 ?_); try simp only [xq, simprocAttr]) | ((first | refine g6 ?_ | refine g7 ?_); simp only [xr, simprocAttr]; repeat (guard_target =~ _ ∧ _; refine ⟨by first | trivial | (unfold I64; omega) | omega | (simp <;> omega) | (intros; omega), ?_⟩))))
  refine awp_cond (by first | rfl | (simp only [xr, simprocAttr]; rfl)) (fun hd => ?_) (fun hd => ?_)
  · have hd := of_decide_eq_true hd
    have hi' : i < k := by omega
    have hnx := partL_next m cs (rs := rs) (k := i) (by omega)
    have hpr := partR_len m (rs.getD i 0) cs
    have hra := h1.at hi'
    have hro := h.len (i := (rs.getD i 0).toNat) (by omega)
    (repeat (first | refine g1 ?_ | refine g2 ?_ | ((first | refine g3 ?_ | refine g4 ?_ | refine g5 ?_); try simp only [xq, simprocAttr]) | ((first | refine g6 ?_ | refine g7 ?_); simp only [xr, simprocAttr]; repeat (guard_target =~ _ ∧ _; refine ⟨by first | trivial | (unfold I64; omega) | omega | (simp <;> omega) | (intros; omega), ?_⟩))))
    refine awp_rounds (α := Nat) (fun j => [(10, true, .int j)]) [0, 1, 2, 7, 8, 9] (fun j => [.row 36 (.ii ((partL m rs cs).take i)), .row 3 (.ints ((partR m (rs.getD i 0) cs).take j))]) (fun j => j ≤ q) (fun j => q - j) 0 (by ((try simp only [xk]); (repeat (refine leK_cons ?_ ?_; first | (focus (first | rfl | (simp only [xr, simprocAttr]; done) | (simp only [xr, simprocAttr]; refine int_eq1 ?_; first | trivial | (unfold I64; omega) | omega | (simp <;> omega) | (intros; omega)))) | rotate_left)); (refine leK_nil ?_; exact (by rfl)); (all_goals (try (simp only [xr, simprocAttr]; try refine int_eq1 ?_))))) (Nat.zero_le _) fun j hj => ?_
    have hjl : ((partR m (rs.getD i 0) cs).take j).length ≤ j := by rw [List.length_take]; omega
    simp only [xr, simprocAttr]
    (repeat (first | refine g1 ?_ | refine g2 ?_ | ((first | refine g3 ?_ | refine g4 ?_ | refine g5 ?_); try simp only [xq, simprocAttr]) | ((first | refine g6 ?_ | refine g7 ?_); simp only [xr, simprocAttr]; repeat (guard_target =~ _ ∧ _; refine ⟨by first | trivial | (unfold I64; omega) | omega | (simp <;> omega) | (intros; omega), ?_⟩))))
    refine awp_cond (by first | rfl | (simp only [xr, simprocAttr]; rfl)) (fun he => ?_) (fun he => ?_)
    · have he := of_decide_eq_true he
      have hj' : j < q := by omega
      have hca := h2.at hj'
      have hnj := partR_next m (rs.getD i 0) (cs := cs) (k := j) (by omega)
      unfold at2L at hnj
      (repeat (first | refine g1 ?_ | refine g2 ?_ | ((first | refine g3 ?_ | refine g4 ?_ | refine g5 ?_); try simp only [xq, simprocAttr]) | ((first | refine g6 ?_ | refine g7 ?_); simp only [xr, simprocAttr]; repeat (guard_target =~ _ ∧ _; refine ⟨by first | trivial | (unfold I64; omega) | omega | (simp <;> omega) | (intros; omega), ?_⟩))))
      ((repeat (first | refine g1 ?_ | refine g2 ?_ | ((first | refine g3 ?_ | refine g4 ?_); try simp only [xq, simprocAttr]))); refine awp_anyG 1 [(15, [2, 1])] [2, 1] [(15, []), (16, [1])] ?_; simp (maxSteps := 3000000) only [xg, xr, simprocAttr]; repeat (guard_target =~ _ ∧ _; refine ⟨by first | (guard_target =~ _ = _; rfl) | (guard_target =~ (_ : Int) ≤ _; omega) | (first | trivial | (unfold I64; omega) | omega | (simp <;> omega) | (intros; omega)), ?_⟩))
      (refine awp_mv 1 2 rfl rfl (by decide) rfl rfl ?_; simp only [xm, simprocAttr])
      (repeat (first | refine g1 ?_ | refine g2 ?_ | ((first | refine g3 ?_ | refine g4 ?_ | refine g5 ?_); try simp only [xq, simprocAttr]) | ((first | refine g6 ?_ | refine g7 ?_); simp only [xr, simprocAttr]; repeat (guard_target =~ _ ∧ _; refine ⟨by first | trivial | (unfold I64; omega) | omega | (simp <;> omega) | (intros; omega), ?_⟩))))
      refine ⟨j + 1, by omega, by omega, .inr ⟨2, Nat.le_of_ble_eq_true rfl, leT_of ?_ rfl rfl rfl⟩⟩
      ((try simp only [xk]); (repeat (refine leK_cons ?_ ?_; first | (focus (first | rfl | (simp only [xr, simprocAttr]; done) | (simp only [xr, simprocAttr]; refine int_eq1 ?_; first | trivial | (unfold I64; omega) | omega | (simp <;> omega) | (intros; omega)))) | rotate_left)); (refine leK_nil ?_; exact (by rw [hnj]; rfl)); (all_goals (try (simp only [xr, simprocAttr]; try refine int_eq1 ?_))))
    · have he := of_decide_eq_false he
      obtain rfl : j = q := by omega
      rw [show (partR m (rs.getD i 0) cs).take j = partR m (rs.getD i 0) cs from List.take_of_length_le (by omega)]
      (repeat (first | refine g1 ?_ | refine g2 ?_ | ((first | refine g3 ?_ | refine g4 ?_); try simp only [xq, simprocAttr])))
      (refine awp_frz 1 rfl ?_; simp only [xz, simprocAttr])
      (repeat (first | refine g1 ?_ | refine g2 ?_ | ((first | refine g3 ?_ | refine g4 ?_ | refine g5 ?_); try simp only [xq, simprocAttr]) | ((first | refine g6 ?_ | refine g7 ?_); simp only [xr, simprocAttr]; repeat (guard_target =~ _ ∧ _; refine ⟨by first | trivial | (unfold I64; omega) | omega | (simp <;> omega) | (intros; omega), ?_⟩))))
      refine ⟨i + 1, by omega, by omega, .inr ⟨1, Nat.le_of_ble_eq_true rfl, leT_of ?_ rfl rfl rfl⟩⟩
      ((try simp only [xk]); (repeat (refine leK_cons ?_ ?_; first | (focus (first | rfl | (simp only [xr, simprocAttr]; done) | (simp only [xr, simprocAttr]; refine int_eq1 ?_; first | trivial | (unfold I64; omega) | omega | (simp <;> omega) | (intros; omega)))) | rotate_left)); (refine leK_nil ?_; exact (by rw [hnx]; rfl)); (all_goals (try (simp only [xr, simprocAttr]; try refine int_eq1 ?_))))
  · have hd := of_decide_eq_false hd
    obtain rfl : i = k := by omega
    rw [List.take_of_length_le (by omega)]
    (repeat (first | refine g1 ?_ | refine g2 ?_ | ((first | refine g3 ?_ | refine g4 ?_); try simp only [xq, simprocAttr]) | ((first | refine g6 ?_ | refine g7 ?_); simp only [xr, simprocAttr]; repeat (guard_target =~ _ ∧ _; refine ⟨by first | trivial | (unfold I64; omega) | omega | (simp <;> omega) | (intros; omega), ?_⟩))))
    (refine awp_frz 0 rfl ?_; simp only [xz, simprocAttr])
    (repeat (first | refine g1 ?_ | refine g2 ?_ | ((first | refine g3 ?_ | refine g4 ?_ | refine g5 ?_); try simp only [xq, simprocAttr]) | ((first | refine g6 ?_ | refine g7 ?_); simp only [xr, simprocAttr]; repeat (guard_target =~ _ ∧ _; refine ⟨by first | trivial | (unfold I64; omega) | omega | (simp <;> omega) | (intros; omega), ?_⟩))))
    (simp only [xe, simprocAttr]; refine ⟨_, rfl, rfl, Imp.eq ?_⟩)
    rfl
theorem l11Spread_d {k n : Nat} (xs ps : List Int) (h1 : PlQ ps k n) (hx : k ≤ xs.length) (hk : k ≤ 3) (hn : n ≤ 3) : Does Try.prog 23 [.sl (.ints xs), .sl (.ints ps), .int n] (.imm (.sl (.ints (spL n xs ps)))) := by
  have hrl := h1.len
  refine spec_imm Try.func23 rfl Try.ntmps23 cfOK (fun _ _ => by kernel_rfl) rfl (Nat.le_of_ble_eq_true rfl) ?_
  intro M0 w0
  rw [Try.results23]
  (repeat (first | refine g1 ?_ | refine g2 ?_ | ((first | refine g3 ?_ | refine g4 ?_ | refine g5 ?_); try simp only [xq, simprocAttr]) | ((first | refine g6 ?_ | refine g7 ?_); simp only [xr, simprocAttr]; repeat (guard_target =~ _ ∧ _; refine ⟨by first | trivial | (unfold I64; omega) | omega | (simp <;> omega) | (intros; omega), ?_⟩))))
  refine awp_rounds (α := Nat) (fun i => [(8, true, .int i)]) [0, 1, 7] (fun i => [.row 3 (.ints (spN n xs ps i))]) (fun i => i ≤ k) (fun i => k - i) 0 (by ((try simp only [xk]); (repeat (refine leK_cons ?_ ?_; first | (focus (first | rfl | (simp only [xr, simprocAttr]; done) | (simp only [xr, simprocAttr]; refine int_eq1 ?_; first | trivial | (unfold I64; omega) | omega | (simp <;> omega) | (intros; omega)))) | rotate_left)); (refine leK_nil ?_; exact (by rfl)); (all_goals (try (simp only [xr, simprocAttr]; try refine int_eq1 ?_))))) (Nat.zero_le _) fun i hi => ?_
  have hsl := spN_len n xs ps i
  simp only [xr, simprocAttr]
  (repeat (first | refine g1 ?_ | refine g2 ?_ | ((first | refine g3 ?_ | refine g4 ?_ | refine g5 ?_); try simp only [xq, simprocAttr]) | ((first | refine g6 ?_ | refine g7 ?_); simp only [xr, simprocAttr]; repeat (guard_target =~ _ ∧ _; refine ⟨by first | trivial | (unfold I64; omega) | omega | (simp <;> omega) | (intros; omega), ?_⟩))))
  refine awp_cond (by first | rfl | (simp only [xr, simprocAttr]; rfl)) (fun hd => ?_) (fun hd => ?_)
  · have hd := of_decide_eq_true hd
    have hi' : i < k := by omega
    have hra := h1.at hi'
    (repeat (first | refine g1 ?_ | refine g2 ?_ | ((first | refine g3 ?_ | refine g4 ?_ | refine g5 ?_); try simp only [xq, simprocAttr]) | ((first | refine g6 ?_ | refine g7 ?_); simp only [xr, simprocAttr]; repeat (guard_target =~ _ ∧ _; refine ⟨by first | trivial | (unfold I64; omega) | omega | (simp <;> omega) | (intros; omega), ?_⟩))))
    ((repeat (first | refine g1 ?_ | refine g2 ?_ | ((first | refine g3 ?_ | refine g4 ?_); try simp only [xq, simprocAttr]))); refine awp_anyM [0] 10 [9] (by kernel_rfl) (by kernel_rfl) (by kernel_rfl) (by kernel_rfl) (by kernel_rfl) ?_; simp (maxSteps := 3000000) only [xr, simprocAttr]; repeat (guard_target =~ _ ∧ _; refine ⟨by first | trivial | (unfold I64; omega) | omega | (simp <;> omega) | (intros; omega), ?_⟩))
    (repeat (first | refine g1 ?_ | refine g2 ?_ | ((first | refine g3 ?_ | refine g4 ?_ | refine g5 ?_); try simp only [xq, simprocAttr]) | ((first | refine g6 ?_ | refine g7 ?_); simp only [xr, simprocAttr]; repeat (guard_target =~ _ ∧ _; refine ⟨by first | trivial | (unfold I64; omega) | omega | (simp <;> omega) | (intros; omega), ?_⟩))))
    refine ⟨i + 1, by omega, by omega, .inl ?_⟩
    ((try simp only [xk]); (repeat (refine leK_cons ?_ ?_; first | (focus (first | rfl | (simp only [xr, simprocAttr]; done) | (simp only [xr, simprocAttr]; refine int_eq1 ?_; first | trivial | (unfold I64; omega) | omega | (simp <;> omega) | (intros; omega)))) | rotate_left)); (refine leK_nil ?_; exact (by rfl)); (all_goals (try (simp only [xr, simprocAttr]; try refine int_eq1 ?_))))
  · have hd := of_decide_eq_false hd
    obtain rfl : i = k := by omega
    (repeat (first | refine g1 ?_ | refine g2 ?_ | ((first | refine g3 ?_ | refine g4 ?_); try simp only [xq, simprocAttr]) | ((first | refine g6 ?_ | refine g7 ?_); simp only [xr, simprocAttr]; repeat (guard_target =~ _ ∧ _; refine ⟨by first | trivial | (unfold I64; omega) | omega | (simp <;> omega) | (intros; omega), ?_⟩))))
    (refine awp_frz 0 rfl ?_; simp only [xz, simprocAttr])
    (repeat (first | refine g1 ?_ | refine g2 ?_ | ((first | refine g3 ?_ | refine g4 ?_ | refine g5 ?_); try simp only [xq, simprocAttr]) | ((first | refine g6 ?_ | refine g7 ?_); simp only [xr, simprocAttr]; repeat (guard_target =~ _ ∧ _; refine ⟨by first | trivial | (unfold I64; omega) | omega | (simp <;> omega) | (intros; omega), ?_⟩))))
    (simp only [xe, simprocAttr]; refine ⟨_, rfl, rfl, Imp.eq ?_⟩)
    show AV.sl (.ints (spN n xs ps i)) = AV.sl (.ints (spN n xs ps ps.length))
    rw [hrl]
set_option maxHeartbeats 2000000 in
theorem l11Products_d {c : Nat} {B : Int} (m : List (List Int)) (ws : List Int) (h : MatQ m c) (hw : BdL B ws) (hl : ws.length = m.length) (hB : 0 ≤ B) (hB2 : B ≤ 1000000000000) : Does Try.prog 35 [.sl (.ii m), .sl (.ints ws)] (.imm (.sl (.ints (prL m ws c)))) := by
  have hl0 := h.l0
  have hl3 := h.l3
  have hc3 := h.c3
  have hr0 := h.len hl0
  refine spec_imm Try.func35 rfl Try.ntmps35 cfOK (fun _ _ => by kernel_rfl) rfl (Nat.le_of_ble_eq_true rfl) ?_
  intro M0 w0
  rw [Try.results35]
  (repeat (first | refine g1 ?_ | refine g2 ?_ | ((first | refine g3 ?_ | refine g4 ?_ | refine g5 ?_); try simp only [xq, simprocAttr]) | ((first | refine g6 ?_ | refine g7 ?_); simp only [xr, simprocAttr]; repeat (guard_target =~ _ ∧ _; refine ⟨by first | trivial | (unfold I64; omega) | omega | (simp <;> omega) | (intros; omega), ?_⟩))))
  rw [show List.replicate (m.getD 0 []).length (0 : Int) = prN m ws c 0 0 by rw [hr0]; exact prN_0 m ws c]
  refine awp_rounds (α := Nat) (fun i => [(6, true, .int i)]) [0, 1, 5] (fun i => [.row 3 (.ints (prN m ws c i 0))]) (fun i => i ≤ m.length) (fun i => m.length - i) 0 (by ((try simp only [xk]); (repeat (refine leK_cons ?_ ?_; first | (focus (first | rfl | (simp only [xr, simprocAttr]; done) | (simp only [xr, simprocAttr]; refine int_eq1 ?_; first | trivial | (unfold I64; omega) | omega | (simp <;> omega) | (intros; omega)))) | rotate_left)); (refine leK_nil ?_; exact (by rfl)); (all_goals (try (simp only [xr, simprocAttr]; try refine int_eq1 ?_))))) (Nat.zero_le _) fun i hi => ?_
  simp only [xr, simprocAttr]
  (repeat (first | refine g1 ?_ | refine g2 ?_ | ((first | refine g3 ?_ | refine g4 ?_ | refine g5 ?_); try simp only [xq, simprocAttr]) | ((first | refine g6 ?_ | refine g7 ?_); simp only [xr, simprocAttr]; repeat (guard_target =~ _ ∧ _; refine ⟨by first | trivial | (unfold I64; omega) | omega | (simp <;> omega) | (intros; omega), ?_⟩))))
  refine awp_cond (by first | rfl | (simp only [xr, simprocAttr]; rfl)) (fun hd => ?_) (fun hd => ?_)
  · have hd := of_decide_eq_true hd
    have hi' : i < m.length := by omega
    have hri := h.len hi'
    (repeat (first | refine g1 ?_ | refine g2 ?_ | ((first | refine g3 ?_ | refine g4 ?_ | refine g5 ?_); try simp only [xq, simprocAttr]) | ((first | refine g6 ?_ | refine g7 ?_); simp only [xr, simprocAttr]; repeat (guard_target =~ _ ∧ _; refine ⟨by first | trivial | (unfold I64; omega) | omega | (simp <;> omega) | (intros; omega), ?_⟩))))
    refine awp_rounds (α := Nat) (fun j => [(7, true, .int j)]) [0, 1, 5, 6] (fun j => [.row 3 (.ints (prN m ws c i j))]) (fun j => j ≤ c) (fun j => c - j) 0 (by ((try simp only [xk]); (repeat (refine leK_cons ?_ ?_; first | (focus (first | rfl | (simp only [xr, simprocAttr]; done) | (simp only [xr, simprocAttr]; refine int_eq1 ?_; first | trivial | (unfold I64; omega) | omega | (simp <;> omega) | (intros; omega)))) | rotate_left)); (refine leK_nil ?_; exact (by rfl)); (all_goals (try (simp only [xr, simprocAttr]; try refine int_eq1 ?_))))) (Nat.zero_le _) fun j hj => ?_
    have hpl := prN_len m ws c i j
    simp only [xr, simprocAttr]
    (repeat (first | refine g1 ?_ | refine g2 ?_ | ((first | refine g3 ?_ | refine g4 ?_ | refine g5 ?_); try simp only [xq, simprocAttr]) | ((first | refine g6 ?_ | refine g7 ?_); simp only [xr, simprocAttr]; repeat (guard_target =~ _ ∧ _; refine ⟨by first | trivial | (unfold I64; omega) | omega | (simp <;> omega) | (intros; omega), ?_⟩))))
    refine awp_cond (by first | rfl | (simp only [xr, simprocAttr]; rfl)) (fun he => ?_) (fun he => ?_)
    · have he := of_decide_eq_true he
      have hj' : j < c := by omega
      have hat := prN_at (m := m) (ws := ws) (i := i) hj'
      have hst := prN_set (m := m) (ws := ws) (i := i) hj'
      have hb1 := pF_bd h hw j (i := i) (by omega) hB
      have hb2 := term_bd h hw i j
      unfold at2L at hb2 hst
      (repeat (first | refine g1 ?_ | refine g2 ?_ | ((first | refine g3 ?_ | refine g4 ?_ | refine g5 ?_); try simp only [xq, simprocAttr]) | ((first | refine g6 ?_ | refine g7 ?_); simp only [xr, simprocAttr]; repeat (guard_target =~ _ ∧ _; refine ⟨by first | trivial | (unfold I64; omega) | omega | (simp <;> omega) | (intros; omega), ?_⟩))))
      ((repeat (first | refine g1 ?_ | refine g2 ?_ | ((first | refine g3 ?_ | refine g4 ?_); try simp only [xq, simprocAttr]))); refine awp_anyM [0] 20 [4, 5, 19] (by kernel_rfl) (by kernel_rfl) (by kernel_rfl) (by kernel_rfl) (by kernel_rfl) ?_; simp (maxSteps := 3000000) only [xr, simprocAttr]; repeat (guard_target =~ _ ∧ _; refine ⟨by first | trivial | (unfold I64; omega) | omega | (simp <;> omega) | (intros; omega), ?_⟩))
      rw [hat, hst]
      (repeat (first | refine g1 ?_ | refine g2 ?_ | ((first | refine g3 ?_ | refine g4 ?_ | refine g5 ?_); try simp only [xq, simprocAttr]) | ((first | refine g6 ?_ | refine g7 ?_); simp only [xr, simprocAttr]; repeat (guard_target =~ _ ∧ _; refine ⟨by first | trivial | (unfold I64; omega) | omega | (simp <;> omega) | (intros; omega), ?_⟩))))
      refine ⟨j + 1, by omega, by omega, .inl ?_⟩
      ((try simp only [xk]); (repeat (refine leK_cons ?_ ?_; first | (focus (first | rfl | (simp only [xr, simprocAttr]; done) | (simp only [xr, simprocAttr]; refine int_eq1 ?_; first | trivial | (unfold I64; omega) | omega | (simp <;> omega) | (intros; omega)))) | rotate_left)); (refine leK_nil ?_; exact (by rfl)); (all_goals (try (simp only [xr, simprocAttr]; try refine int_eq1 ?_))))
    · have he := of_decide_eq_false he
      obtain rfl : j = c := by omega
      rw [prN_all]
      (repeat (first | refine g1 ?_ | refine g2 ?_ | ((first | refine g3 ?_ | refine g4 ?_ | refine g5 ?_); try simp only [xq, simprocAttr]) | ((first | refine g6 ?_ | refine g7 ?_); simp only [xr, simprocAttr]; repeat (guard_target =~ _ ∧ _; refine ⟨by first | trivial | (unfold I64; omega) | omega | (simp <;> omega) | (intros; omega), ?_⟩))))
      refine ⟨i + 1, by omega, by omega, .inl ?_⟩
      ((try simp only [xk]); (repeat (refine leK_cons ?_ ?_; first | (focus (first | rfl | (simp only [xr, simprocAttr]; done) | (simp only [xr, simprocAttr]; refine int_eq1 ?_; first | trivial | (unfold I64; omega) | omega | (simp <;> omega) | (intros; omega)))) | rotate_left)); (refine leK_nil ?_; exact (by rfl)); (all_goals (try (simp only [xr, simprocAttr]; try refine int_eq1 ?_))))
  · have hd := of_decide_eq_false hd
    obtain rfl : i = m.length := by omega
    rw [prN_end]
    (repeat (first | refine g1 ?_ | refine g2 ?_ | ((first | refine g3 ?_ | refine g4 ?_); try simp only [xq, simprocAttr]) | ((first | refine g6 ?_ | refine g7 ?_); simp only [xr, simprocAttr]; repeat (guard_target =~ _ ∧ _; refine ⟨by first | trivial | (unfold I64; omega) | omega | (simp <;> omega) | (intros; omega), ?_⟩))))
    (refine awp_frz 0 rfl ?_; simp only [xz, simprocAttr])
    (repeat (first | refine g1 ?_ | refine g2 ?_ | ((first | refine g3 ?_ | refine g4 ?_ | refine g5 ?_); try simp only [xq, simprocAttr]) | ((first | refine g6 ?_ | refine g7 ?_); simp only [xr, simprocAttr]; repeat (guard_target =~ _ ∧ _; refine ⟨by first | trivial | (unfold I64; omega) | omega | (simp <;> omega) | (intros; omega), ?_⟩))))
    (simp only [xe, simprocAttr]; refine ⟨_, rfl, rfl, Imp.eq ?_⟩)
    rfl
end Go.Proofs.Ytpihfeganpdjiaa
/- Solved matrices, on the machine: the reference's test of a solved choice, and fractions. -/
set_option linter.all false
set_option linter.unusedSimpArgs false
set_option linter.unusedVariables false
namespace Go.Proofs.Ytpihfeganpdjiaa
open Go Go.RowKit Am

def fitA (m : List (List Int)) (rs one : List Int) : Bool := (spL m.length one rs).all fun x => decide (0 ≤ x)
def fitC (m : List (List Int)) (c : Nat) (rs one : List Int) (g : Int) : Bool := (prL m (spL m.length one rs) c).all fun s => decide (g * s ≤ g * one.getD rs.length 0)
def fitB (m : List (List Int)) (c : Nat) (rs one : List Int) (g : Int) : Bool := decide (0 < one.length) && (fitA m rs one && fitC m c rs one g)
theorem all_of {p : Int → Bool} {xs : List Int} (h : ∀ k, k < xs.length → p (xs.getD k 0) = true) : xs.all p = true := by
  rw [List.all_eq_true]
  intro x hx
  obtain ⟨k, hk, rfl⟩ := List.getElem_of_mem hx
  rw [← getD_inQ hk]
  exact h k hk
theorem all_no {p : Int → Bool} {xs : List Int} {k : Nat} (hk : k < xs.length) (h : p (xs.getD k 0) = false) : xs.all p = false := by
  rw [Bool.eq_false_iff]
  intro h1
  rw [getD_inQ hk, List.all_eq_true.1 h1 _ (List.getElem_mem _)] at h
  cases h
theorem step_all {P : Nat → Prop} {i : Nat} (h : ∀ j, j < i → P j) (h2 : P i) : ∀ j, j < i + 1 → P j := fun j hj => (Nat.lt_or_ge j i).elim (h j) fun h3 => by
  obtain rfl : j = i := by omega
  exact h2
set_option maxHeartbeats 2000000 in
theorem l11Fits_d {c k : Nat} (m : List (List Int)) (rs one : List Int) (g : Int) (h : MatQ m c) (h1 : PlQ rs k m.length) (hk : k ≤ 3) (hg : -1 ≤ g ∧ g ≤ 1) (ho : one = [] ∨ one.length = k + 2) (hb : BdL 1000000000 one) : Does Try.prog 20 [.sl (.ii m), .sl (.ints rs), .sl (.ints one), .int g] (.imm (.val (.bool (fitB m c rs one g)))) := by
  have hrl := h1.len
  have hl0 := h.l0
  have hl3 := h.l3
  have hc3 := h.c3
  refine spec_imm Try.func20 rfl Try.ntmps20 cfOK (fun _ _ => by kernel_rfl) rfl (Nat.le_of_ble_eq_true rfl) ?_
  intro M0 w0
  rw [Try.results20]
  (repeat (first | refine g1 ?_ | refine g2 ?_ | ((first | refine g3 ?_ | refine g4 ?_ | refine g5 ?_); try simp only [xq, simprocAttr]) | ((first | refine g6 ?_ | refine g7 ?_); simp only [xr, simprocAttr]; repeat (guard_target =~ _ ∧ _; refine ⟨by first | trivial | (unfold I64; omega) | omega | (simp <;> omega) | (intros; omega), ?_⟩))))
  refine awp_cond (by first | rfl | (simp only [xr, simprocAttr]; rfl)) (fun hz => ?_) (fun hz => ?_)
  · have hz := of_decide_eq_true hz
    have hz' : one.length = 0 := by omega
    have hr : fitB m c rs one g = false := by unfold fitB; rw [hz']; rfl
    rw [hr]
    (repeat (first | refine g1 ?_ | refine g2 ?_ | ((first | refine g3 ?_ | refine g4 ?_ | refine g5 ?_); try simp only [xq, simprocAttr]) | ((first | refine g6 ?_ | refine g7 ?_); simp only [xr, simprocAttr]; repeat (guard_target =~ _ ∧ _; refine ⟨by first | trivial | (unfold I64; omega) | omega | (simp <;> omega) | (intros; omega), ?_⟩))))
    (simp only [xe, simprocAttr]; refine ⟨_, rfl, rfl, Imp.eq ?_⟩)
    rfl
  have hz := of_decide_eq_false hz
  have ho2 : one.length = k + 2 := by
    rcases ho with h2 | h2
    · rw [h2] at hz; simp at hz
    · exact h2
  have hsl := spL_len m.length one rs
  have hsb := spN_bd (B := 1000000000) (by decide) m.length rs hb rs.length
  have hpl : (prL m (spL m.length one rs) c).length = c := by simp [prL]
  (repeat (first | refine g1 ?_ | refine g2 ?_ | ((first | refine g3 ?_ | refine g4 ?_ | refine g5 ?_); try simp only [xq, simprocAttr]) | ((first | refine g6 ?_ | refine g7 ?_); simp only [xr, simprocAttr]; repeat (guard_target =~ _ ∧ _; refine ⟨by first | trivial | (unfold I64; omega) | omega | (simp <;> omega) | (intros; omega), ?_⟩))))
  ((try refine Or.inl ?_); refine ⟨_, (l11Spread_d (k := k) (n := m.length) one rs h1 (by omega) hk hl3), .inr (by and_intros <;> first | rfl | (simp; done)), ?_⟩; (try simp only [xr, simprocAttr]); repeat (guard_target =~ _ ∧ _; refine ⟨by first | trivial | (unfold I64; omega) | omega | (simp <;> omega) | (intros; omega), ?_⟩))
  (repeat (first | refine g1 ?_ | refine g2 ?_ | ((first | refine g3 ?_ | refine g4 ?_ | refine g5 ?_); try simp only [xq, simprocAttr]) | ((first | refine g6 ?_ | refine g7 ?_); simp only [xr, simprocAttr]; repeat (guard_target =~ _ ∧ _; refine ⟨by first | trivial | (unfold I64; omega) | omega | (simp <;> omega) | (intros; omega), ?_⟩))))
  ((try refine Or.inl ?_); refine ⟨_, (l11Products_d m (spL m.length one rs) h hsb hsl (by decide) (by decide)), .inr (by and_intros <;> first | rfl | (simp; done)), ?_⟩; (try simp only [xr, simprocAttr]); repeat (guard_target =~ _ ∧ _; refine ⟨by first | trivial | (unfold I64; omega) | omega | (simp <;> omega) | (intros; omega), ?_⟩))
  (repeat (first | refine g1 ?_ | refine g2 ?_ | ((first | refine g3 ?_ | refine g4 ?_ | refine g5 ?_); try simp only [xq, simprocAttr]) | ((first | refine g6 ?_ | refine g7 ?_); simp only [xr, simprocAttr]; repeat (guard_target =~ _ ∧ _; refine ⟨by first | trivial | (unfold I64; omega) | omega | (simp <;> omega) | (intros; omega), ?_⟩))))
  refine awp_rounds (α := Nat) (fun i => [(11, true, .int i)]) [1, 2, 3, 9, 10] (fun i => []) (fun i => i ≤ m.length ∧ ∀ j, j < i → 0 ≤ (spL m.length one rs).getD j 0) (fun i => m.length - i) 0 (by ((try simp only [xk]); (repeat (refine leK_cons ?_ ?_; first | (focus (first | rfl | (simp only [xr, simprocAttr]; done) | (simp only [xr, simprocAttr]; refine int_eq1 ?_; first | trivial | (unfold I64; omega) | omega | (simp <;> omega) | (intros; omega)))) | rotate_left)); (refine leK_nil ?_; exact (by rfl)); (all_goals (try (simp only [xr, simprocAttr]; try refine int_eq1 ?_))))) ⟨Nat.zero_le _, fun j hj => by omega⟩ fun i ⟨hi, hall⟩ => ?_
  simp only [xr, simprocAttr]
  (repeat (first | refine g1 ?_ | refine g2 ?_ | ((first | refine g3 ?_ | refine g4 ?_ | refine g5 ?_); try simp only [xq, simprocAttr]) | ((first | refine g6 ?_ | refine g7 ?_); simp only [xr, simprocAttr]; repeat (guard_target =~ _ ∧ _; refine ⟨by first | trivial | (unfold I64; omega) | omega | (simp <;> omega) | (intros; omega), ?_⟩))))
  refine awp_cond (by first | rfl | (simp only [xr, simprocAttr]; rfl)) (fun hd => ?_) (fun hd => ?_)
  · have hd := of_decide_eq_true hd
    have hi' : i < m.length := by omega
    (repeat (first | refine g1 ?_ | refine g2 ?_ | ((first | refine g3 ?_ | refine g4 ?_ | refine g5 ?_); try simp only [xq, simprocAttr]) | ((first | refine g6 ?_ | refine g7 ?_); simp only [xr, simprocAttr]; repeat (guard_target =~ _ ∧ _; refine ⟨by first | trivial | (unfold I64; omega) | omega | (simp <;> omega) | (intros; omega), ?_⟩))))
    refine awp_cond (by first | rfl | (simp only [xr, simprocAttr]; rfl)) (fun he => ?_) (fun he => ?_)
    · have he := of_decide_eq_true he
      have hr : fitB m c rs one g = false := by
        unfold fitB fitA
        rw [all_no (k := i) (by omega) (decide_eq_false (by omega)), Bool.false_and, Bool.and_false]
      rw [hr]
      (repeat (first | refine g1 ?_ | refine g2 ?_ | ((first | refine g3 ?_ | refine g4 ?_ | refine g5 ?_); try simp only [xq, simprocAttr]) | ((first | refine g6 ?_ | refine g7 ?_); simp only [xr, simprocAttr]; repeat (guard_target =~ _ ∧ _; refine ⟨by first | trivial | (unfold I64; omega) | omega | (simp <;> omega) | (intros; omega), ?_⟩))))
      (simp only [xe, simprocAttr]; refine ⟨_, rfl, rfl, Imp.eq ?_⟩)
      rfl
    · have he := of_decide_eq_false he
      (repeat (first | refine g1 ?_ | refine g2 ?_ | ((first | refine g3 ?_ | refine g4 ?_ | refine g5 ?_); try simp only [xq, simprocAttr]) | ((first | refine g6 ?_ | refine g7 ?_); simp only [xr, simprocAttr]; repeat (guard_target =~ _ ∧ _; refine ⟨by first | trivial | (unfold I64; omega) | omega | (simp <;> omega) | (intros; omega), ?_⟩))))
      refine ⟨i + 1, by omega, step_all hall (by omega), by omega, .inl ?_⟩
      ((try simp only [xk]); (repeat (refine leK_cons ?_ ?_; first | (focus (first | rfl | (simp only [xr, simprocAttr]; done) | (simp only [xr, simprocAttr]; refine int_eq1 ?_; first | trivial | (unfold I64; omega) | omega | (simp <;> omega) | (intros; omega)))) | rotate_left)); (refine leK_nil ?_; exact (by rfl)); (all_goals (try (simp only [xr, simprocAttr]; try refine int_eq1 ?_))))
  · have hd := of_decide_eq_false hd
    obtain rfl : i = m.length := by omega
    have hA : fitA m rs one = true := all_of fun j hj => decide_eq_true (hall j (by omega))
    (repeat (first | refine g1 ?_ | refine g2 ?_ | ((first | refine g3 ?_ | refine g4 ?_ | refine g5 ?_); try simp only [xq, simprocAttr]) | ((first | refine g6 ?_ | refine g7 ?_); simp only [xr, simprocAttr]; repeat (guard_target =~ _ ∧ _; refine ⟨by first | trivial | (unfold I64; omega) | omega | (simp <;> omega) | (intros; omega), ?_⟩))))
    refine awp_rounds (α := Nat) (fun i => [(12, true, .int i)]) [1, 2, 3, 9, 10] (fun i => []) (fun i => i ≤ c ∧ ∀ j, j < i → g * (prL m (spL m.length one rs) c).getD j 0 ≤ g * one.getD rs.length 0) (fun i => c - i) 0 (by ((try simp only [xk]); (repeat (refine leK_cons ?_ ?_; first | (focus (first | rfl | (simp only [xr, simprocAttr]; done) | (simp only [xr, simprocAttr]; refine int_eq1 ?_; first | trivial | (unfold I64; omega) | omega | (simp <;> omega) | (intros; omega)))) | rotate_left)); (refine leK_nil ?_; exact (by rfl)); (all_goals (try (simp only [xr, simprocAttr]; try refine int_eq1 ?_))))) ⟨Nat.zero_le _, fun j hj => by omega⟩ fun i ⟨hi, hall⟩ => ?_
    simp only [xr, simprocAttr]
    (repeat (first | refine g1 ?_ | refine g2 ?_ | ((first | refine g3 ?_ | refine g4 ?_ | refine g5 ?_); try simp only [xq, simprocAttr]) | ((first | refine g6 ?_ | refine g7 ?_); simp only [xr, simprocAttr]; repeat (guard_target =~ _ ∧ _; refine ⟨by first | trivial | (unfold I64; omega) | omega | (simp <;> omega) | (intros; omega), ?_⟩))))
    refine awp_cond (by first | rfl | (simp only [xr, simprocAttr]; rfl)) (fun hd => ?_) (fun hd => ?_)
    · have hd := of_decide_eq_true hd
      have hi' : i < c := by omega
      have hpb : -(120 * 1000000000) ≤ (prL m (spL m.length one rs) c).getD i 0 ∧ (prL m (spL m.length one rs) c).getD i 0 ≤ 120 * 1000000000 := by
        have := pF_bd h hsb i (i := m.length) hl3 (by decide)
        rw [getD_inQ (by omega)]
        unfold prL
        rw [List.getElem_map, List.getElem_range]
        exact this
      have hm1 := mul_abs hg hpb
      have hm2 := mul_abs hg (hb rs.length)
      (repeat (first | refine g1 ?_ | refine g2 ?_ | ((first | refine g3 ?_ | refine g4 ?_ | refine g5 ?_); try simp only [xq, simprocAttr]) | ((first | refine g6 ?_ | refine g7 ?_); simp only [xr, simprocAttr]; repeat (guard_target =~ _ ∧ _; refine ⟨by first | trivial | (unfold I64; omega) | omega | (simp <;> omega) | (intros; omega), ?_⟩))))
      refine awp_cond (by first | rfl | (simp only [xr, simprocAttr]; rfl)) (fun he => ?_) (fun he => ?_)
      · have he := of_decide_eq_true he
        have hr : fitB m c rs one g = false := by
          unfold fitB fitC
          rw [all_no (k := i) (by omega) (decide_eq_false (by omega)), Bool.and_false, Bool.and_false]
        rw [hr]
        (repeat (first | refine g1 ?_ | refine g2 ?_ | ((first | refine g3 ?_ | refine g4 ?_ | refine g5 ?_); try simp only [xq, simprocAttr]) | ((first | refine g6 ?_ | refine g7 ?_); simp only [xr, simprocAttr]; repeat (guard_target =~ _ ∧ _; refine ⟨by first | trivial | (unfold I64; omega) | omega | (simp <;> omega) | (intros; omega), ?_⟩))))
        (simp only [xe, simprocAttr]; refine ⟨_, rfl, rfl, Imp.eq ?_⟩)
        rfl
      · have he := of_decide_eq_false he
        (repeat (first | refine g1 ?_ | refine g2 ?_ | ((first | refine g3 ?_ | refine g4 ?_ | refine g5 ?_); try simp only [xq, simprocAttr]) | ((first | refine g6 ?_ | refine g7 ?_); simp only [xr, simprocAttr]; repeat (guard_target =~ _ ∧ _; refine ⟨by first | trivial | (unfold I64; omega) | omega | (simp <;> omega) | (intros; omega), ?_⟩))))
        refine ⟨i + 1, by omega, step_all hall (by omega), by omega, .inl ?_⟩
        ((try simp only [xk]); (repeat (refine leK_cons ?_ ?_; first | (focus (first | rfl | (simp only [xr, simprocAttr]; done) | (simp only [xr, simprocAttr]; refine int_eq1 ?_; first | trivial | (unfold I64; omega) | omega | (simp <;> omega) | (intros; omega)))) | rotate_left)); (refine leK_nil ?_; exact (by rfl)); (all_goals (try (simp only [xr, simprocAttr]; try refine int_eq1 ?_))))
    · have hd := of_decide_eq_false hd
      obtain rfl : i = c := by omega
      have hC : fitC m i rs one g = true := all_of fun j hj => decide_eq_true (hall j (by omega))
      have hr : fitB m i rs one g = true := by unfold fitB; rw [hA, hC]; simp; omega
      rw [hr]
      (repeat (first | refine g1 ?_ | refine g2 ?_ | ((first | refine g3 ?_ | refine g4 ?_ | refine g5 ?_); try simp only [xq, simprocAttr]) | ((first | refine g6 ?_ | refine g7 ?_); simp only [xr, simprocAttr]; repeat (guard_target =~ _ ∧ _; refine ⟨by first | trivial | (unfold I64; omega) | omega | (simp <;> omega) | (intros; omega), ?_⟩))))
      (simp only [xe, simprocAttr]; refine ⟨_, rfl, rfl, Imp.eq ?_⟩)
      rfl
abbrev frQ (a : Int × Int) : List Int := [a.1, a.2]
theorem frQ_take {ws : List Int} {d : Int} {k : Nat} (h : k < ws.length) : (ws.take (k + 1)).map (fun w => frQ (mkFr w d)) = (ws.take k).map (fun w => frQ (mkFr w d)) ++ [frQ (mkFr (ws.getD k 0) d)] := by
  rw [take_getD h 0, List.map_append]
  rfl
theorem l11FracsQ_d (us : List Int) (d : Int) (hd : 1 ≤ d) (hd2 : d ≤ 1000000000000) (hu : BdL 1000000000000 us) (hl : us.length ≤ 100) : Does Try.prog 22 [.sl (.ints us), .int d] (.imm (.sl (.k 2 (us.map fun w => frQ (mkFr w d))))) := by
  refine spec_imm Try.func22 rfl Try.ntmps22 cfOK (fun _ _ => by kernel_rfl) rfl (Nat.le_of_ble_eq_true rfl) ?_
  intro M0 w0
  rw [Try.results22]
  (repeat (first | refine g1 ?_ | refine g2 ?_ | ((first | refine g3 ?_ | refine g4 ?_ | refine g5 ?_); try simp only [xq, simprocAttr]) | ((first | refine g6 ?_ | refine g7 ?_); simp only [xr, simprocAttr]; repeat (guard_target =~ _ ∧ _; refine ⟨by first | trivial | (unfold I64; omega) | omega | (simp <;> omega) | (intros; omega), ?_⟩))))
  refine awp_rounds (α := Nat) (fun k => [(6, true, .int k)]) [0, 1, 5] (fun k => [.row 26 (.k 2 ((us.take k).map fun w => frQ (mkFr w d)))]) (fun k => k ≤ us.length) (fun k => us.length - k) 0 (by ((try simp only [xk]); (repeat (refine leK_cons ?_ ?_; first | (focus (first | rfl | (simp only [xr, simprocAttr]; done) | (simp only [xr, simprocAttr]; refine int_eq1 ?_; first | trivial | (unfold I64; omega) | omega | (simp <;> omega) | (intros; omega)))) | rotate_left)); (refine leK_nil ?_; exact (by rfl)); (all_goals (try (simp only [xr, simprocAttr]; try refine int_eq1 ?_))))) (Nat.zero_le _) fun k hk => ?_
  have hml : ((us.take k).map fun w => frQ (mkFr w d)).length = k := by rw [List.length_map, List.length_take]; omega
  simp only [xr, simprocAttr]
  (repeat (first | refine g1 ?_ | refine g2 ?_ | ((first | refine g3 ?_ | refine g4 ?_ | refine g5 ?_); try simp only [xq, simprocAttr]) | ((first | refine g6 ?_ | refine g7 ?_); simp only [xr, simprocAttr]; repeat (guard_target =~ _ ∧ _; refine ⟨by first | trivial | (unfold I64; omega) | omega | (simp <;> omega) | (intros; omega), ?_⟩))))
  refine awp_cond (by first | rfl | (simp only [xr, simprocAttr]; rfl)) (fun hc => ?_) (fun hc => ?_)
  · have hc := of_decide_eq_true hc
    have hk' : k < us.length := by omega
    have hb := hu k
    (repeat (first | refine g1 ?_ | refine g2 ?_ | ((first | refine g3 ?_ | refine g4 ?_ | refine g5 ?_); try simp only [xq, simprocAttr]) | ((first | refine g6 ?_ | refine g7 ?_); simp only [xr, simprocAttr]; repeat (guard_target =~ _ ∧ _; refine ⟨by first | trivial | (unfold I64; omega) | omega | (simp <;> omega) | (intros; omega), ?_⟩))))
    ((try refine Or.inl ?_); refine ⟨_, (l2Make_d _ _ hd (by omega) (by omega) (by omega)), .inl rfl, ?_⟩; (try simp only [xr, simprocAttr]); repeat (guard_target =~ _ ∧ _; refine ⟨by first | trivial | (unfold I64; omega) | omega | (simp <;> omega) | (intros; omega), ?_⟩))
    (repeat (first | refine g1 ?_ | refine g2 ?_ | ((first | refine g3 ?_ | refine g4 ?_ | refine g5 ?_); try simp only [xq, simprocAttr]) | ((first | refine g6 ?_ | refine g7 ?_); simp only [xr, simprocAttr]; repeat (guard_target =~ _ ∧ _; refine ⟨by first | trivial | (unfold I64; omega) | omega | (simp <;> omega) | (intros; omega), ?_⟩))))
    refine ⟨k + 1, by omega, by omega, .inr ⟨1, Nat.le_of_ble_eq_true rfl, leT_of ?_ rfl rfl rfl⟩⟩
    ((try simp only [xk]); (repeat (refine leK_cons ?_ ?_; first | (focus (first | rfl | (simp only [xr, simprocAttr]; done) | (simp only [xr, simprocAttr]; refine int_eq1 ?_; first | trivial | (unfold I64; omega) | omega | (simp <;> omega) | (intros; omega)))) | rotate_left)); (refine leK_nil ?_; exact (by rw [frQ_take hk']; rfl)); (all_goals (try (simp only [xr, simprocAttr]; try refine int_eq1 ?_))))
  · have hc := of_decide_eq_false hc
    have hk' : k = us.length := by omega
    subst hk'
    rw [List.take_length]
    (repeat (first | refine g1 ?_ | refine g2 ?_ | ((first | refine g3 ?_ | refine g4 ?_); try simp only [xq, simprocAttr]) | ((first | refine g6 ?_ | refine g7 ?_); simp only [xr, simprocAttr]; repeat (guard_target =~ _ ∧ _; refine ⟨by first | trivial | (unfold I64; omega) | omega | (simp <;> omega) | (intros; omega), ?_⟩))))
    (refine awp_frz 0 rfl ?_; simp only [xz, simprocAttr])
    (repeat (first | refine g1 ?_ | refine g2 ?_ | ((first | refine g3 ?_ | refine g4 ?_ | refine g5 ?_); try simp only [xq, simprocAttr]) | ((first | refine g6 ?_ | refine g7 ?_); simp only [xr, simprocAttr]; repeat (guard_target =~ _ ∧ _; refine ⟨by first | trivial | (unfold I64; omega) | omega | (simp <;> omega) | (intros; omega), ?_⟩))))
    (simp only [xe, simprocAttr]; refine ⟨_, rfl, rfl, Imp.eq ?_⟩)
    rfl
end Go.Proofs.Ytpihfeganpdjiaa
