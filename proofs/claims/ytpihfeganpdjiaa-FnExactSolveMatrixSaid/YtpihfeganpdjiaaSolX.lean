/- A choice of rows and columns tried by the program, on the machine. Conditions: a matrix, choices below its sizes; where both systems have a solution, small sums. -/
import Derived.Test.YtpihfeganpdjiaaSolM
import Derived.Test.YtpihfeganpdjiaaSolW
set_option linter.all false
set_option linter.unusedSimpArgs false
set_option linter.unusedVariables false
namespace Go.Proofs.Ytpihfeganpdjiaa
open Go Go.RowKit Am

theorem mkFr_bd (n d : Int) : -100000000 ≤ (mkFr n d).1 ∧ (mkFr n d).1 ≤ 100000000 ∧ 0 ≤ (mkFr n d).2 ∧ (mkFr n d).2 ≤ 100000 := by
  unfold mkFr
  by_cases h : mkOk n d = true
  · rw [if_pos h]
    have := frB_iff.1 h
    refine ⟨?_, ?_, ?_, ?_⟩
    · exact this.2.2.1
    · exact this.2.2.2.1
    · exact Int.le_trans (by decide) this.1
    · exact this.2.1
  · rw [if_neg h]
    decide
theorem frI {n d n' d' : Int} : I64 ((mkFr n d).1 * (mkFr n' d').2) := by
  have h1 := mkFr_bd n d
  have h2 := mkFr_bd n' d'
  have h3 := mul_abs (A := 100000000) (B := 100000) ⟨h1.1, h1.2.1⟩ (b := (mkFr n' d').2) ⟨by omega, h2.2.2.2⟩
  unfold I64
  omega
def triX (k : Nat) (sq : List (List Int)) : List Int := balL k sq
def triA (m : List (List Int)) (k : Nat) (rs cs : List Int) : List Int := spL m.length (balL k (partL m rs cs)) rs
def triB (m : List (List Int)) (c k : Nat) (rs cs : List Int) : List Int := spL c (balL k (colsOf k (partL m rs cs))) cs
def triV (m : List (List Int)) (c k : Nat) (rs cs : List Int) : Int × Int := mkFr ((prL m (triA m k rs cs) c).getD (cs.getD 0 0).toNat 0) (triA m k rs cs).sum
def triMost (m : List (List Int)) (c k : Nat) (rs cs : List Int) : Int × Int := mkFr (mxN (prL m (triA m k rs cs) c) (c - 1)) (triA m k rs cs).sum
def triLeast (m : List (List Int)) (c k : Nat) (rs cs : List Int) : Int × Int := mkFr (mnN (prL (colsOf c m) (triB m c k rs cs) m.length) (m.length - 1)) (triB m c k rs cs).sum
/-- both systems have a solution without negative numbers -/
def tri1 (m : List (List Int)) (k : Nat) (rs cs : List Int) : Prop := detL k (sysI k (partL m rs cs)) ≠ 0 ∧ detL k (sysI k (colsOf k (partL m rs cs))) ≠ 0 ∧ 0 ≤ mnN (balL k (partL m rs cs)) (k - 1) ∧ 0 ≤ mnN (balL k (colsOf k (partL m rs cs))) (k - 1)
def tri2 (m : List (List Int)) (c k : Nat) (rs cs : List Int) : Prop := cmpQ ((triMost m c k rs cs).1 * (triV m c k rs cs).2) ((triV m c k rs cs).1 * (triMost m c k rs cs).2) ≤ 0 ∧ 0 ≤ cmpQ ((triLeast m c k rs cs).1 * (triV m c k rs cs).2) ((triV m c k rs cs).1 * (triLeast m c k rs cs).2)
instance (m : List (List Int)) (k : Nat) (rs cs : List Int) : Decidable (tri1 m k rs cs) := by unfold tri1; infer_instance
instance (m : List (List Int)) (c k : Nat) (rs cs : List Int) : Decidable (tri2 m c k rs cs) := by unfold tri2; infer_instance
def triS (m : List (List Int)) (c k : Nat) (rs cs : List Int) : SolR := ((triA m k rs cs).map fun w => frQ (mkFr w (triA m k rs cs).sum), (triB m c k rs cs).map fun w => frQ (mkFr w (triB m c k rs cs).sum), triV m c k rs cs)
def triQ (m : List (List Int)) (c k : Nat) (rs cs : List Int) : Option SolR := if tri1 m k rs cs ∧ tri2 m c k rs cs then some (triS m c k rs cs) else none
abbrev solT (r : Option SolR) : AV := match r with | none => .tup [.one (.b (.val (.slice none 0 0))), .one (.b (.val (.slice none 0 0))), frT (0, 0), blT false] | some x => .tup [.one (.own 0), .one (.own 1), frT x.2.2, blT true]
abbrev solO (r : Option SolR) : List Ob := match r with | none => [] | some x => [.row 26 (.k 2 x.1), .row 26 (.k 2 x.2.1)]
/-- what holds where both systems have a solution -/
structure TriF (m : List (List Int)) (c k : Nat) (rs cs : List Int) : Prop where
  a : BdL 1000000000 (triA m k rs cs)
  b : BdL 1000000000 (triB m c k rs cs)
  sa : SumFits (triA m k rs cs)
  sb : SumFits (triB m c k rs cs)
  a1 : 1 ≤ (triA m k rs cs).sum
  b1 : 1 ≤ (triB m c k rs cs).sum
  a2 : (triA m k rs cs).sum ≤ 1000000000
  b2 : (triB m c k rs cs).sum ≤ 1000000000
theorem mx_bd {w : List Int} {B : Int} (h : ∀ j, -B ≤ w.getD j 0 ∧ w.getD j 0 ≤ B) : ∀ k, -B ≤ mxN w k ∧ mxN w k ≤ B
  | 0 => h 0
  | k + 1 => by
    have h1 := mx_bd h k
    have h2 := h (k + 1)
    show -B ≤ max (mxN w k) (w.getD (k + 1) 0) ∧ max (mxN w k) (w.getD (k + 1) 0) ≤ B
    omega
theorem mn_bd {w : List Int} {B : Int} (h : ∀ j, -B ≤ w.getD j 0 ∧ w.getD j 0 ≤ B) : ∀ k, -B ≤ mnN w k ∧ mnN w k ≤ B
  | 0 => h 0
  | k + 1 => by
    have h1 := mn_bd h k
    have h2 := h (k + 1)
    show -B ≤ min (mnN w k) (w.getD (k + 1) 0) ∧ min (mnN w k) (w.getD (k + 1) 0) ≤ B
    omega
theorem prL_bd {m : List (List Int)} {ws : List Int} {B : Int} {c c' : Nat} (h : MatQ m c) (hw : BdL B ws) (hB : 0 ≤ B) (j : Nat) : -(120 * B) ≤ (prL m ws c').getD j 0 ∧ (prL m ws c').getD j 0 ≤ 120 * B := by
  rw [List.getD_eq_getElem?_getD]
  cases h3 : (prL m ws c')[j]? with
  | none => simp; omega
  | some y =>
    obtain ⟨hj, rfl⟩ := List.getElem?_eq_some_iff.1 h3
    have := pF_bd h hw j h.l3 hB
    simpa [prL] using this
theorem balR_0 {n : Nat} {m : List (List Int)} (h : detL n (sysI n m) = 0) : balR n m = .tup [.one (.b (.val (.slice none 0 0))), .one (.b (.val (.bool false)))] := if_pos h
theorem balR_1 {n : Nat} {m : List (List Int)} (h : detL n (sysI n m) ≠ 0) : balR n m = .tup [.one (.b (.sl (.ints (balL n m)))), .one (.b (.val (.bool true)))] := if_neg h
theorem cols_sq {n : Nat} {B : Int} {m : List (List Int)} (hB : 0 ≤ B) (h : SqM n B m) : SqM n B (colsOf n m) := by
  refine ⟨colsOf_len n m, fun r hr => ?_, fun r hr x hx => ?_⟩
  · obtain ⟨k, _, rfl⟩ := List.mem_map.1 hr
    rw [colOf_len, h.len]
  · obtain ⟨k, _, rfl⟩ := List.mem_map.1 hr
    obtain ⟨r, hr2, rfl⟩ := List.mem_map.1 hx
    rw [List.getD_eq_getElem?_getD]
    cases h3 : r[k]? with
    | none => simp; omega
    | some y => have := h.bd r hr2 y (List.mem_of_getElem? h3); simpa using this
theorem balL_len (n : Nat) (m : List (List Int)) : (balL n m).length = n := by simp [balL]
set_option maxRecDepth 8000 in
set_option maxHeartbeats 8000000 in
theorem trial_h (m : List (List Int)) (c k : Nat) (rs cs : List Int) (h : MatQ m c) (h1 : PlQ rs k m.length) (h2 : PlQ cs k c) (hk0 : 1 ≤ k) (hk : k ≤ 3) (hT : tri1 m k rs cs → TriF m c k rs cs) : DoesH Try.prog 27 [.sl (.ii m), .sl (.ints rs), .sl (.ints cs)] [] [] (solT (triQ m c k rs cs)) (solO (triQ m c k rs cs)) := by
  have hrl := h1.len
  have hcl := h2.len
  have hl0 := h.l0
  have hl3 := h.l3
  have hc0 := h.c0
  have hc3 := h.c3
  have hpl := partL_len m rs cs
  have hsq := part_sq h hrl hcl
  have hsq2 := cols_sq (by decide) hsq
  have h0r := h.len hl0
  have hq0 : 0 < (partL m rs cs).length := by omega
  have hbl1 := balL_len k (partL m rs cs)
  have hbl2 := balL_len k (colsOf k (partL m rs cs))
  refine spec_hB Try.func27 rfl Try.ntmps27 cfOK (fun _ _ => by kernel_rfl) rfl rfl rfl ?_
  intro M0 w0 S φ0
  rw [Try.results27]
  (repeat (first | refine g1 ?_ | refine g2 ?_ | ((first | refine g3 ?_ | refine g4 ?_ | refine g5 ?_); try simp only [xq, simprocAttr]) | ((first | refine g6 ?_ | refine g7 ?_); simp only [xr, simprocAttr]; repeat (guard_target =~ _ ∧ _; refine ⟨by first | trivial | (unfold I64; omega) | omega | (simp <;> omega) | (intros; omega), ?_⟩))))
  refine awp_rounds (α := Nat) (fun i => [(31, true, .int i)]) [0, 1, 2, 6, 7, 8, 9, 10, 29, 30] (fun i => [.box [.b (.val (.int .i64 0)), .b (.val (.int .i64 0))], .row 36 (.ii ((partL m rs cs).take i))]) (fun i => i ≤ k) (fun i => k - i) 0 (by ((try simp only [xk]); (repeat (refine leK_cons ?_ ?_; first | (focus (first | rfl | (simp only [xr, simprocAttr]; done) | (simp only [xr, simprocAttr]; refine int_eq1 ?_; first | trivial | (unfold I64; omega) | omega | (simp <;> omega) | (intros; omega)))) | rotate_left)); (refine leK_nil ?_; exact (by rfl)); (all_goals (try (simp only [xr, simprocAttr]; try refine int_eq1 ?_))))) (Nat.zero_le _) fun i hi => ?_
  have hil : ((partL m rs cs).take i).length ≤ i := by rw [List.length_take]; omega
  simp only [xr, simprocAttr]
  (repeat (first | refine g1 ?_ | refine g2 ?_ | ((first | refine g3 ?_ | refine g4 ?_ | refine g5 ?_); try simp only [xq, simprocAttr]) | ((first | refine g6 ?_ | refine g7 ?_); simp only [xr, simprocAttr]; repeat (guard_target =~ _ ∧ _; refine ⟨by first | trivial | (unfold I64; omega) | omega | (simp <;> omega) | (intros; omega), ?_⟩))))
  refine awp_cond (by first | rfl | (simp only [xr, simprocAttr]; rfl)) (fun hd => ?_) (fun hd => ?_)
  · have hd := of_decide_eq_true hd
    have hi' : i < k := by omega
    have hnx := partL_next m cs (rs := rs) (k := i) (by omega)
    have hpr := partR_len m (rs.getD i 0) cs
    have hra := h1.at hi'
    have hro := h.len (i := (rs.getD i 0).toNat) (by omega)
    (repeat (first | refine g1 ?_ | refine g2 ?_ | ((first | refine g3 ?_ | refine g4 ?_ | refine g5 ?_); try simp only [xq, simprocAttr]) | ((first | refine g6 ?_ | refine g7 ?_); simp only [xr, simprocAttr]; repeat (guard_target =~ _ ∧ _; refine ⟨by first | trivial | (unfold I64; omega) | omega | (simp <;> omega) | (intros; omega), ?_⟩))))
    refine awp_rounds (α := Nat) (fun j => [(38, true, .int j)]) [0, 1, 2, 6, 7, 8, 9, 10, 12, 13, 29, 30, 31, 36, 37] (fun j => [.box [.b (.val (.int .i64 0)), .b (.val (.int .i64 0))], .row 36 (.ii ((partL m rs cs).take i)), .row 3 (.ints ((partR m (rs.getD i 0) cs).take j))]) (fun j => j ≤ k) (fun j => k - j) 0 (by ((try simp only [xk]); (repeat (refine leK_cons ?_ ?_; first | (focus (first | rfl | (simp only [xr, simprocAttr]; done) | (simp only [xr, simprocAttr]; refine int_eq1 ?_; first | trivial | (unfold I64; omega) | omega | (simp <;> omega) | (intros; omega)))) | rotate_left)); (refine leK_nil ?_; exact (by rfl)); (all_goals (try (simp only [xr, simprocAttr]; try refine int_eq1 ?_))))) (Nat.zero_le _) fun j hj => ?_
    have hjl : ((partR m (rs.getD i 0) cs).take j).length ≤ j := by rw [List.length_take]; omega
    simp only [xr, simprocAttr]
    (repeat (first | refine g1 ?_ | refine g2 ?_ | ((first | refine g3 ?_ | refine g4 ?_ | refine g5 ?_); try simp only [xq, simprocAttr]) | ((first | refine g6 ?_ | refine g7 ?_); simp only [xr, simprocAttr]; repeat (guard_target =~ _ ∧ _; refine ⟨by first | trivial | (unfold I64; omega) | omega | (simp <;> omega) | (intros; omega), ?_⟩))))
    refine awp_cond (by first | rfl | (simp only [xr, simprocAttr]; rfl)) (fun he => ?_) (fun he => ?_)
    · have he := of_decide_eq_true he
      have hj' : j < k := by omega
      have hca := h2.at hj'
      have hnj := partR_next m (rs.getD i 0) (cs := cs) (k := j) (by omega)
      unfold at2L at hnj
      (repeat (first | refine g1 ?_ | refine g2 ?_ | ((first | refine g3 ?_ | refine g4 ?_ | refine g5 ?_); try simp only [xq, simprocAttr]) | ((first | refine g6 ?_ | refine g7 ?_); simp only [xr, simprocAttr]; repeat (guard_target =~ _ ∧ _; refine ⟨by first | trivial | (unfold I64; omega) | omega | (simp <;> omega) | (intros; omega), ?_⟩))))
      refine ⟨j + 1, by omega, by omega, .inr ⟨3, Nat.le_of_ble_eq_true rfl, leT_of ?_ rfl rfl rfl⟩⟩
      ((try simp only [xk]); (repeat (refine leK_cons ?_ ?_; first | (focus (first | rfl | (simp only [xr, simprocAttr]; done) | (simp only [xr, simprocAttr]; refine int_eq1 ?_; first | trivial | (unfold I64; omega) | omega | (simp <;> omega) | (intros; omega)))) | rotate_left)); (refine leK_nil ?_; exact (by rw [hnj]; rfl)); (all_goals (try (simp only [xr, simprocAttr]; try refine int_eq1 ?_))))
    · have he := of_decide_eq_false he
      obtain rfl : j = k := by omega
      rw [show (partR m (rs.getD i 0) cs).take j = partR m (rs.getD i 0) cs from List.take_of_length_le (by omega)]
      (repeat (first | refine g1 ?_ | refine g2 ?_ | ((first | refine g3 ?_ | refine g4 ?_); try simp only [xq, simprocAttr])))
      (refine awp_frz 2 rfl ?_; simp only [xz, simprocAttr])
      (repeat (first | refine g1 ?_ | refine g2 ?_ | ((first | refine g3 ?_ | refine g4 ?_ | refine g5 ?_); try simp only [xq, simprocAttr]) | ((first | refine g6 ?_ | refine g7 ?_); simp only [xr, simprocAttr]; repeat (guard_target =~ _ ∧ _; refine ⟨by first | trivial | (unfold I64; omega) | omega | (simp <;> omega) | (intros; omega), ?_⟩))))
      refine ⟨i + 1, by omega, by omega, .inr ⟨2, Nat.le_of_ble_eq_true rfl, leT_of ?_ rfl rfl rfl⟩⟩
      ((try simp only [xk]); (repeat (refine leK_cons ?_ ?_; first | (focus (first | rfl | (simp only [xr, simprocAttr]; done) | (simp only [xr, simprocAttr]; refine int_eq1 ?_; first | trivial | (unfold I64; omega) | omega | (simp <;> omega) | (intros; omega)))) | rotate_left)); (refine leK_nil ?_; exact (by rw [hnx]; rfl)); (all_goals (try (simp only [xr, simprocAttr]; try refine int_eq1 ?_))))
  have hd := of_decide_eq_false hd
  obtain rfl : i = k := by omega
  rw [show (partL m rs cs).take i = partL m rs cs from List.take_of_length_le (by omega)]
  (repeat (first | refine g1 ?_ | refine g2 ?_ | ((first | refine g3 ?_ | refine g4 ?_); try simp only [xq, simprocAttr])))
  (refine awp_frz 1 rfl ?_; simp only [xz, simprocAttr])
  have hB1 := balanced_d (partL m rs cs) i hk0 hk hsq
  have hB2 := balanced_d (colsOf i (partL m rs cs)) i hk0 hk hsq2
  have hTU := turned_d (partL m rs cs) i hq0 (by omega) (by omega) hsq.row
  rcases Decidable.em (detL i (sysI i (partL m rs cs)) = 0) with z1 | z1
  · have hn : triQ m c i rs cs = none := if_neg fun hh => hh.1.1 z1
    rw [hn]
    rw [balR_0 z1] at hB1
    (repeat (first | refine g1 ?_ | refine g2 ?_ | ((first | refine g3 ?_ | refine g4 ?_ | refine g5 ?_); try simp only [xq, simprocAttr]) | ((first | refine g6 ?_ | refine g7 ?_); simp only [xr, simprocAttr]; repeat (guard_target =~ _ ∧ _; refine ⟨by first | trivial | (unfold I64; omega) | omega | (simp <;> omega) | (intros; omega), ?_⟩))))
    ((try refine Or.inl ?_); refine ⟨_, (hB1), .inr (by and_intros <;> first | rfl | (simp; done)), ?_⟩; (try simp only [xr, simprocAttr]); repeat (guard_target =~ _ ∧ _; refine ⟨by first | trivial | (unfold I64; omega) | omega | (simp <;> omega) | (intros; omega), ?_⟩))
    (repeat (first | refine g1 ?_ | refine g2 ?_ | ((first | refine g3 ?_ | refine g4 ?_ | refine g5 ?_); try simp only [xq, simprocAttr]) | ((first | refine g6 ?_ | refine g7 ?_); simp only [xr, simprocAttr]; repeat (guard_target =~ _ ∧ _; refine ⟨by first | trivial | (unfold I64; omega) | omega | (simp <;> omega) | (intros; omega), ?_⟩))))
    ((try refine Or.inl ?_); refine ⟨_, (hTU), .inr (by and_intros <;> first | rfl | (simp; done)), ?_⟩; (try simp only [xr, simprocAttr]); repeat (guard_target =~ _ ∧ _; refine ⟨by first | trivial | (unfold I64; omega) | omega | (simp <;> omega) | (intros; omega), ?_⟩))
    (repeat (first | refine g1 ?_ | refine g2 ?_ | ((first | refine g3 ?_ | refine g4 ?_ | refine g5 ?_); try simp only [xq, simprocAttr]) | ((first | refine g6 ?_ | refine g7 ?_); simp only [xr, simprocAttr]; repeat (guard_target =~ _ ∧ _; refine ⟨by first | trivial | (unfold I64; omega) | omega | (simp <;> omega) | (intros; omega), ?_⟩))))
    rcases Decidable.em (detL i (sysI i (colsOf i (partL m rs cs))) = 0) with z2 | z2
    · rw [balR_0 z2] at hB2
      ((try refine Or.inl ?_); refine ⟨_, (hB2), .inr (by and_intros <;> first | rfl | (simp; done)), ?_⟩; (try simp only [xr, simprocAttr]); repeat (guard_target =~ _ ∧ _; refine ⟨by first | trivial | (unfold I64; omega) | omega | (simp <;> omega) | (intros; omega), ?_⟩))
      (repeat (first | refine g1 ?_ | refine g2 ?_ | ((first | refine g3 ?_ | refine g4 ?_ | refine g5 ?_); try simp only [xq, simprocAttr]) | ((first | refine g6 ?_ | refine g7 ?_); simp only [xr, simprocAttr]; repeat (guard_target =~ _ ∧ _; refine ⟨by first | trivial | (unfold I64; omega) | omega | (simp <;> omega) | (intros; omega), ?_⟩))))
      refine .inl ⟨(.int 0 : AV), .inl rfl, ?_⟩
      simp only [xr, simprocAttr]
      (repeat (first | refine g1 ?_ | refine g2 ?_ | ((first | refine g3 ?_ | refine g4 ?_ | refine g5 ?_); try simp only [xq, simprocAttr]) | ((first | refine g6 ?_ | refine g7 ?_); simp only [xr, simprocAttr]; repeat (guard_target =~ _ ∧ _; refine ⟨by first | trivial | (unfold I64; omega) | omega | (simp <;> omega) | (intros; omega), ?_⟩))))
      refine .inl ⟨(.int 0 : AV), .inl rfl, ?_⟩
      simp only [xr, simprocAttr]
      (repeat (first | refine g1 ?_ | refine g2 ?_ | ((first | refine g3 ?_ | refine g4 ?_ | refine g5 ?_); try simp only [xq, simprocAttr]) | ((first | refine g6 ?_ | refine g7 ?_); simp only [xr, simprocAttr]; repeat (guard_target =~ _ ∧ _; refine ⟨by first | trivial | (unfold I64; omega) | omega | (simp <;> omega) | (intros; omega), ?_⟩))))
      refine awp_cond (by first | rfl | (simp only [xr, simprocAttr]; rfl)) (fun hx => ?_) (fun hx => ?_)
      · (repeat (first | refine g1 ?_ | refine g2 ?_ | ((first | refine g3 ?_ | refine g4 ?_ | refine g5 ?_); try simp only [xq, simprocAttr]) | ((first | refine g6 ?_ | refine g7 ?_); simp only [xr, simprocAttr]; repeat (guard_target =~ _ ∧ _; refine ⟨by first | trivial | (unfold I64; omega) | omega | (simp <;> omega) | (intros; omega), ?_⟩))))
        (simp only [ends_normal, ends_ret]; refine retH_2 (vs := [_, _, _, _]) [] rfl trivial rfl rfl rfl rfl ⟨rfl, rfl, ⟨by simp only [xr, simprocAttr] <;> (and_intros <;> first | trivial | (unfold I64; omega) | omega | (simp <;> omega) | (intros; omega)), rfl⟩, rfl, trivial⟩ ?_; try rfl)
        all_goals rfl
      · cases hx
    · rw [balR_1 z2] at hB2
      ((try refine Or.inl ?_); refine ⟨_, (hB2), .inr (by and_intros <;> first | rfl | (simp; done)), ?_⟩; (try simp only [xr, simprocAttr]); repeat (guard_target =~ _ ∧ _; refine ⟨by first | trivial | (unfold I64; omega) | omega | (simp <;> omega) | (intros; omega), ?_⟩))
      (repeat (first | refine g1 ?_ | refine g2 ?_ | ((first | refine g3 ?_ | refine g4 ?_ | refine g5 ?_); try simp only [xq, simprocAttr]) | ((first | refine g6 ?_ | refine g7 ?_); simp only [xr, simprocAttr]; repeat (guard_target =~ _ ∧ _; refine ⟨by first | trivial | (unfold I64; omega) | omega | (simp <;> omega) | (intros; omega), ?_⟩))))
      refine .inl ⟨(.int 0 : AV), .inl rfl, ?_⟩
      simp only [xr, simprocAttr]
      (repeat (first | refine g1 ?_ | refine g2 ?_ | ((first | refine g3 ?_ | refine g4 ?_ | refine g5 ?_); try simp only [xq, simprocAttr]) | ((first | refine g6 ?_ | refine g7 ?_); simp only [xr, simprocAttr]; repeat (guard_target =~ _ ∧ _; refine ⟨by first | trivial | (unfold I64; omega) | omega | (simp <;> omega) | (intros; omega), ?_⟩))))
      refine .inl ⟨(.int 0 : AV), .inl rfl, ?_⟩
      simp only [xr, simprocAttr]
      (repeat (first | refine g1 ?_ | refine g2 ?_ | ((first | refine g3 ?_ | refine g4 ?_ | refine g5 ?_); try simp only [xq, simprocAttr]) | ((first | refine g6 ?_ | refine g7 ?_); simp only [xr, simprocAttr]; repeat (guard_target =~ _ ∧ _; refine ⟨by first | trivial | (unfold I64; omega) | omega | (simp <;> omega) | (intros; omega), ?_⟩))))
      refine awp_cond (by first | rfl | (simp only [xr, simprocAttr]; rfl)) (fun hx => ?_) (fun hx => ?_)
      · (repeat (first | refine g1 ?_ | refine g2 ?_ | ((first | refine g3 ?_ | refine g4 ?_ | refine g5 ?_); try simp only [xq, simprocAttr]) | ((first | refine g6 ?_ | refine g7 ?_); simp only [xr, simprocAttr]; repeat (guard_target =~ _ ∧ _; refine ⟨by first | trivial | (unfold I64; omega) | omega | (simp <;> omega) | (intros; omega), ?_⟩))))
        (simp only [ends_normal, ends_ret]; refine retH_2 (vs := [_, _, _, _]) [] rfl trivial rfl rfl rfl rfl ⟨rfl, rfl, ⟨by simp only [xr, simprocAttr] <;> (and_intros <;> first | trivial | (unfold I64; omega) | omega | (simp <;> omega) | (intros; omega)), rfl⟩, rfl, trivial⟩ ?_; try rfl)
        all_goals rfl
      · cases hx
  rw [balR_1 z1] at hB1
  (repeat (first | refine g1 ?_ | refine g2 ?_ | ((first | refine g3 ?_ | refine g4 ?_ | refine g5 ?_); try simp only [xq, simprocAttr]) | ((first | refine g6 ?_ | refine g7 ?_); simp only [xr, simprocAttr]; repeat (guard_target =~ _ ∧ _; refine ⟨by first | trivial | (unfold I64; omega) | omega | (simp <;> omega) | (intros; omega), ?_⟩))))
  ((try refine Or.inl ?_); refine ⟨_, (hB1), .inr (by and_intros <;> first | rfl | (simp; done)), ?_⟩; (try simp only [xr, simprocAttr]); repeat (guard_target =~ _ ∧ _; refine ⟨by first | trivial | (unfold I64; omega) | omega | (simp <;> omega) | (intros; omega), ?_⟩))
  (repeat (first | refine g1 ?_ | refine g2 ?_ | ((first | refine g3 ?_ | refine g4 ?_ | refine g5 ?_); try simp only [xq, simprocAttr]) | ((first | refine g6 ?_ | refine g7 ?_); simp only [xr, simprocAttr]; repeat (guard_target =~ _ ∧ _; refine ⟨by first | trivial | (unfold I64; omega) | omega | (simp <;> omega) | (intros; omega), ?_⟩))))
  ((try refine Or.inl ?_); refine ⟨_, (hTU), .inr (by and_intros <;> first | rfl | (simp; done)), ?_⟩; (try simp only [xr, simprocAttr]); repeat (guard_target =~ _ ∧ _; refine ⟨by first | trivial | (unfold I64; omega) | omega | (simp <;> omega) | (intros; omega), ?_⟩))
  (repeat (first | refine g1 ?_ | refine g2 ?_ | ((first | refine g3 ?_ | refine g4 ?_ | refine g5 ?_); try simp only [xq, simprocAttr]) | ((first | refine g6 ?_ | refine g7 ?_); simp only [xr, simprocAttr]; repeat (guard_target =~ _ ∧ _; refine ⟨by first | trivial | (unfold I64; omega) | omega | (simp <;> omega) | (intros; omega), ?_⟩))))
  rcases Decidable.em (detL i (sysI i (colsOf i (partL m rs cs))) = 0) with z2 | z2
  · have hn : triQ m c i rs cs = none := if_neg fun hh => hh.1.2.1 z2
    rw [hn]
    rw [balR_0 z2] at hB2
    ((try refine Or.inl ?_); refine ⟨_, (hB2), .inr (by and_intros <;> first | rfl | (simp; done)), ?_⟩; (try simp only [xr, simprocAttr]); repeat (guard_target =~ _ ∧ _; refine ⟨by first | trivial | (unfold I64; omega) | omega | (simp <;> omega) | (intros; omega), ?_⟩))
    (repeat (first | refine g1 ?_ | refine g2 ?_ | ((first | refine g3 ?_ | refine g4 ?_ | refine g5 ?_); try simp only [xq, simprocAttr]) | ((first | refine g6 ?_ | refine g7 ?_); simp only [xr, simprocAttr]; repeat (guard_target =~ _ ∧ _; refine ⟨by first | trivial | (unfold I64; omega) | omega | (simp <;> omega) | (intros; omega), ?_⟩))))
    refine .inl ⟨(.int 0 : AV), .inl rfl, ?_⟩
    simp only [xr, simprocAttr]
    (repeat (first | refine g1 ?_ | refine g2 ?_ | ((first | refine g3 ?_ | refine g4 ?_ | refine g5 ?_); try simp only [xq, simprocAttr]) | ((first | refine g6 ?_ | refine g7 ?_); simp only [xr, simprocAttr]; repeat (guard_target =~ _ ∧ _; refine ⟨by first | trivial | (unfold I64; omega) | omega | (simp <;> omega) | (intros; omega), ?_⟩))))
    refine .inl ⟨(.int 0 : AV), .inl rfl, ?_⟩
    simp only [xr, simprocAttr]
    (repeat (first | refine g1 ?_ | refine g2 ?_ | ((first | refine g3 ?_ | refine g4 ?_ | refine g5 ?_); try simp only [xq, simprocAttr]) | ((first | refine g6 ?_ | refine g7 ?_); simp only [xr, simprocAttr]; repeat (guard_target =~ _ ∧ _; refine ⟨by first | trivial | (unfold I64; omega) | omega | (simp <;> omega) | (intros; omega), ?_⟩))))
    refine awp_cond (by first | rfl | (simp only [xr, simprocAttr]; rfl)) (fun hx => ?_) (fun hx => ?_)
    · (repeat (first | refine g1 ?_ | refine g2 ?_ | ((first | refine g3 ?_ | refine g4 ?_ | refine g5 ?_); try simp only [xq, simprocAttr]) | ((first | refine g6 ?_ | refine g7 ?_); simp only [xr, simprocAttr]; repeat (guard_target =~ _ ∧ _; refine ⟨by first | trivial | (unfold I64; omega) | omega | (simp <;> omega) | (intros; omega), ?_⟩))))
      (simp only [ends_normal, ends_ret]; refine retH_2 (vs := [_, _, _, _]) [] rfl trivial rfl rfl rfl rfl ⟨rfl, rfl, ⟨by simp only [xr, simprocAttr] <;> (and_intros <;> first | trivial | (unfold I64; omega) | omega | (simp <;> omega) | (intros; omega)), rfl⟩, rfl, trivial⟩ ?_; try rfl)
      all_goals rfl
    · cases hx
  rw [balR_1 z2] at hB2
  ((try refine Or.inl ?_); refine ⟨_, (hB2), .inr (by and_intros <;> first | rfl | (simp; done)), ?_⟩; (try simp only [xr, simprocAttr]); repeat (guard_target =~ _ ∧ _; refine ⟨by first | trivial | (unfold I64; omega) | omega | (simp <;> omega) | (intros; omega), ?_⟩))
  (repeat (first | refine g1 ?_ | refine g2 ?_ | ((first | refine g3 ?_ | refine g4 ?_ | refine g5 ?_); try simp only [xq, simprocAttr]) | ((first | refine g6 ?_ | refine g7 ?_); simp only [xr, simprocAttr]; repeat (guard_target =~ _ ∧ _; refine ⟨by first | trivial | (unfold I64; omega) | omega | (simp <;> omega) | (intros; omega), ?_⟩))))
  have hM1 := sliceMinQ_d (balL i (partL m rs cs)) (by omega)
  have hM2 := sliceMinQ_d (balL i (colsOf i (partL m rs cs))) (by omega)
  rw [hbl1] at hM1
  rw [hbl2] at hM2
  ((try refine Or.inl ?_); refine ⟨_, (hM1), .inl rfl, ?_⟩; (try simp only [xr, simprocAttr]); repeat (guard_target =~ _ ∧ _; refine ⟨by first | trivial | (unfold I64; omega) | omega | (simp <;> omega) | (intros; omega), ?_⟩))
  (repeat (first | refine g1 ?_ | refine g2 ?_ | ((first | refine g3 ?_ | refine g4 ?_ | refine g5 ?_); try simp only [xq, simprocAttr]) | ((first | refine g6 ?_ | refine g7 ?_); simp only [xr, simprocAttr]; repeat (guard_target =~ _ ∧ _; refine ⟨by first | trivial | (unfold I64; omega) | omega | (simp <;> omega) | (intros; omega), ?_⟩))))
  ((try refine Or.inl ?_); refine ⟨_, (fun _ => hM2), .inl rfl, ?_⟩; (try simp only [xr, simprocAttr]); repeat (guard_target =~ _ ∧ _; refine ⟨by first | trivial | (unfold I64; omega) | omega | (simp <;> omega) | (intros; omega), ?_⟩))
  (repeat (first | refine g1 ?_ | refine g2 ?_ | ((first | refine g3 ?_ | refine g4 ?_ | refine g5 ?_); try simp only [xq, simprocAttr]) | ((first | refine g6 ?_ | refine g7 ?_); simp only [xr, simprocAttr]; repeat (guard_target =~ _ ∧ _; refine ⟨by first | trivial | (unfold I64; omega) | omega | (simp <;> omega) | (intros; omega), ?_⟩))))
  refine awp_cond (by first | rfl | (simp only [xr, simprocAttr]; rfl)) (fun hx => ?_) (fun hx => ?_)
  · have hn : triQ m c i rs cs = none := if_neg fun hh => by
      have h3 := hh.1.2.2.1
      have h4 := hh.1.2.2.2
      revert hx
      simp
      omega
    rw [hn]
    (repeat (first | refine g1 ?_ | refine g2 ?_ | ((first | refine g3 ?_ | refine g4 ?_ | refine g5 ?_); try simp only [xq, simprocAttr]) | ((first | refine g6 ?_ | refine g7 ?_); simp only [xr, simprocAttr]; repeat (guard_target =~ _ ∧ _; refine ⟨by first | trivial | (unfold I64; omega) | omega | (simp <;> omega) | (intros; omega), ?_⟩))))
    (simp only [ends_normal, ends_ret]; refine retH_2 (vs := [_, _, _, _]) [] rfl trivial rfl rfl rfl rfl ⟨rfl, rfl, ⟨by simp only [xr, simprocAttr] <;> (and_intros <;> first | trivial | (unfold I64; omega) | omega | (simp <;> omega) | (intros; omega)), rfl⟩, rfl, trivial⟩ ?_; try rfl)
    all_goals rfl
  have hm1 : 0 ≤ mnN (balL i (partL m rs cs)) (i - 1) ∧ 0 ≤ mnN (balL i (colsOf i (partL m rs cs))) (i - 1) := by
    revert hx
    simp
  have ht1 : tri1 m i rs cs := ⟨z1, z2, hm1.1, hm1.2⟩
  have hF := hT ht1
  have hca := h2.at (j := 0) (by omega)
  have hq2 := cols_q h
  have hla : (triA m i rs cs).length = m.length := spL_len _ _ _
  have hlb : (triB m c i rs cs).length = (colsOf c m).length := by rw [colsOf_len]; exact spL_len _ _ _
  have hcc := colsOf_len c m
  have hpa : (prL m (triA m i rs cs) c).length = c := by simp [prL]
  have hpb : (prL (colsOf c m) (triB m c i rs cs) m.length).length = m.length := by simp [prL]
  have hba := prL_bd (c' := c) h hF.a (by decide)
  have hbb := prL_bd (c' := m.length) hq2 hF.b (by decide)
  have hmx := mx_bd hba (c - 1)
  have hmn := mn_bd hbb (m.length - 1)
  have hbv := hba (cs.getD 0 0).toNat
  have a1 := hF.a1
  have a2 := hF.a2
  have b1 := hF.b1
  have b2 := hF.b2
  have hmean := means_d m (triA m i rs cs) h hF.a hla (by decide) (by decide)
  have hmeanb := means_d (colsOf c m) (triB m c i rs cs) hq2 hF.b hlb (by decide) (by decide)
  have hMX := sliceMaxQ_d (prL m (triA m i rs cs) c) (by omega)
  have hMN := sliceMinQ_d (prL (colsOf c m) (triB m c i rs cs) m.length) (by omega)
  rw [hpa] at hMX
  rw [hpb] at hMN
  (repeat (first | refine g1 ?_ | refine g2 ?_ | ((first | refine g3 ?_ | refine g4 ?_ | refine g5 ?_); try simp only [xq, simprocAttr]) | ((first | refine g6 ?_ | refine g7 ?_); simp only [xr, simprocAttr]; repeat (guard_target =~ _ ∧ _; refine ⟨by first | trivial | (unfold I64; omega) | omega | (simp <;> omega) | (intros; omega), ?_⟩))))
  ((try refine Or.inl ?_); refine ⟨_, (spread_d (k := i) (n := m.length) (balL i (partL m rs cs)) rs h1 (by omega) hk hl3), .inr (by and_intros <;> first | rfl | (simp; done)), ?_⟩; (try simp only [xr, simprocAttr]); repeat (guard_target =~ _ ∧ _; refine ⟨by first | trivial | (unfold I64; omega) | omega | (simp <;> omega) | (intros; omega), ?_⟩))
  (repeat (first | refine g1 ?_ | refine g2 ?_ | ((first | refine g3 ?_ | refine g4 ?_ | refine g5 ?_); try simp only [xq, simprocAttr]) | ((first | refine g6 ?_ | refine g7 ?_); simp only [xr, simprocAttr]; repeat (guard_target =~ _ ∧ _; refine ⟨by first | trivial | (unfold I64; omega) | omega | (simp <;> omega) | (intros; omega), ?_⟩))))
  rw [h0r]
  ((try refine Or.inl ?_); refine ⟨_, (spread_d (k := i) (n := c) (balL i (colsOf i (partL m rs cs))) cs h2 (by omega) hk hc3), .inr (by and_intros <;> first | rfl | (simp; done)), ?_⟩; (try simp only [xr, simprocAttr]); repeat (guard_target =~ _ ∧ _; refine ⟨by first | trivial | (unfold I64; omega) | omega | (simp <;> omega) | (intros; omega), ?_⟩))
  rw [show spL m.length (balL i (partL m rs cs)) rs = triA m i rs cs from rfl, show spL c (balL i (colsOf i (partL m rs cs))) cs = triB m c i rs cs from rfl]
  (repeat (first | refine g1 ?_ | refine g2 ?_ | ((first | refine g3 ?_ | refine g4 ?_ | refine g5 ?_); try simp only [xq, simprocAttr]) | ((first | refine g6 ?_ | refine g7 ?_); simp only [xr, simprocAttr]; repeat (guard_target =~ _ ∧ _; refine ⟨by first | trivial | (unfold I64; omega) | omega | (simp <;> omega) | (intros; omega), ?_⟩))))
  ((repeat (first | refine g1 ?_ | refine g2 ?_ | ((first | refine g3 ?_ | refine g4 ?_); try simp only [xq, simprocAttr]))); refine awp_anyG 1 [(14, [2]), (15, [2])] [2] [(14, []), (15, [])] ?_; simp (maxSteps := 3000000) only [xg, xr, simprocAttr]; repeat (guard_target =~ _ ∧ _; refine ⟨by first | (guard_target =~ _ = _; rfl) | (guard_target =~ (_ : Int) ≤ _; omega) | (first | trivial | (unfold I64; omega) | omega | (simp <;> omega) | (intros; omega)), ?_⟩))
  ((try refine Or.inl ?_); refine ⟨_, (hmean), .inr (by and_intros <;> first | rfl | (simp; done)), ?_⟩; (try simp (maxSteps := 3000000) only [xg, xr, simprocAttr]); repeat (guard_target =~ _ ∧ _; refine ⟨by first | (guard_target =~ _ = _; rfl) | (guard_target =~ (_ : Int) ≤ _; omega) | (first | trivial | (unfold I64; omega) | omega | (simp <;> omega) | (intros; omega)), ?_⟩))
  ((try refine Or.inl ?_); refine ⟨_, (total_d (triA m i rs cs) hF.sa), .inr (by and_intros <;> first | rfl | (simp; done)), ?_⟩; (try simp (maxSteps := 3000000) only [xg, xr, simprocAttr]); repeat (guard_target =~ _ ∧ _; refine ⟨by first | (guard_target =~ _ = _; rfl) | (guard_target =~ (_ : Int) ≤ _; omega) | (first | trivial | (unfold I64; omega) | omega | (simp <;> omega) | (intros; omega)), ?_⟩))
  ((try refine Or.inl ?_); refine ⟨_, (makeFrac_d ((prL m (triA m i rs cs) c).getD (cs.getD 0 0).toNat 0) (triA m i rs cs).sum a1 (by omega) (by omega) (by omega)), .inr (by and_intros <;> first | rfl | (simp; done)), ?_⟩; (try simp (maxSteps := 3000000) only [xg, xr, simprocAttr]); repeat (guard_target =~ _ ∧ _; refine ⟨by first | (guard_target =~ _ = _; rfl) | (guard_target =~ (_ : Int) ≤ _; omega) | (first | trivial | (unfold I64; omega) | omega | (simp <;> omega) | (intros; omega)), ?_⟩))
  (repeat (first | refine g1 ?_ | refine g2 ?_ | ((first | refine g3 ?_ | refine g4 ?_ | refine g5 ?_); try simp only [xq, simprocAttr]) | ((first | refine g6 ?_ | refine g7 ?_); simp only [xr, simprocAttr]; repeat (guard_target =~ _ ∧ _; refine ⟨by first | trivial | (unfold I64; omega) | omega | (simp <;> omega) | (intros; omega), ?_⟩))))
  ((try refine Or.inl ?_); refine ⟨_, (hmean), .inr (by and_intros <;> first | rfl | (simp; done)), ?_⟩; (try simp only [xr, simprocAttr]); repeat (guard_target =~ _ ∧ _; refine ⟨by first | trivial | (unfold I64; omega) | omega | (simp <;> omega) | (intros; omega), ?_⟩))
  (repeat (first | refine g1 ?_ | refine g2 ?_ | ((first | refine g3 ?_ | refine g4 ?_ | refine g5 ?_); try simp only [xq, simprocAttr]) | ((first | refine g6 ?_ | refine g7 ?_); simp only [xr, simprocAttr]; repeat (guard_target =~ _ ∧ _; refine ⟨by first | trivial | (unfold I64; omega) | omega | (simp <;> omega) | (intros; omega), ?_⟩))))
  ((try refine Or.inl ?_); refine ⟨_, (hMX), .inl rfl, ?_⟩; (try simp only [xr, simprocAttr]); repeat (guard_target =~ _ ∧ _; refine ⟨by first | trivial | (unfold I64; omega) | omega | (simp <;> omega) | (intros; omega), ?_⟩))
  (repeat (first | refine g1 ?_ | refine g2 ?_ | ((first | refine g3 ?_ | refine g4 ?_ | refine g5 ?_); try simp only [xq, simprocAttr]) | ((first | refine g6 ?_ | refine g7 ?_); simp only [xr, simprocAttr]; repeat (guard_target =~ _ ∧ _; refine ⟨by first | trivial | (unfold I64; omega) | omega | (simp <;> omega) | (intros; omega), ?_⟩))))
  ((try refine Or.inl ?_); refine ⟨_, (total_d (triA m i rs cs) hF.sa), .inl rfl, ?_⟩; (try simp only [xr, simprocAttr]); repeat (guard_target =~ _ ∧ _; refine ⟨by first | trivial | (unfold I64; omega) | omega | (simp <;> omega) | (intros; omega), ?_⟩))
  (repeat (first | refine g1 ?_ | refine g2 ?_ | ((first | refine g3 ?_ | refine g4 ?_ | refine g5 ?_); try simp only [xq, simprocAttr]) | ((first | refine g6 ?_ | refine g7 ?_); simp only [xr, simprocAttr]; repeat (guard_target =~ _ ∧ _; refine ⟨by first | trivial | (unfold I64; omega) | omega | (simp <;> omega) | (intros; omega), ?_⟩))))
  ((try refine Or.inl ?_); refine ⟨_, (makeFrac_d (mxN (prL m (triA m i rs cs) c) (c - 1)) (triA m i rs cs).sum a1 (by omega) (by omega) (by omega)), .inl rfl, ?_⟩; (try simp only [xr, simprocAttr]); repeat (guard_target =~ _ ∧ _; refine ⟨by first | trivial | (unfold I64; omega) | omega | (simp <;> omega) | (intros; omega), ?_⟩))
  (repeat (first | refine g1 ?_ | refine g2 ?_ | ((first | refine g3 ?_ | refine g4 ?_ | refine g5 ?_); try simp only [xq, simprocAttr]) | ((first | refine g6 ?_ | refine g7 ?_); simp only [xr, simprocAttr]; repeat (guard_target =~ _ ∧ _; refine ⟨by first | trivial | (unfold I64; omega) | omega | (simp <;> omega) | (intros; omega), ?_⟩))))
  ((try refine Or.inl ?_); refine ⟨_, (turned_d m c hl0 (by omega) (by omega) h.row), .inr (by and_intros <;> first | rfl | (simp; done)), ?_⟩; (try simp only [xr, simprocAttr]); repeat (guard_target =~ _ ∧ _; refine ⟨by first | trivial | (unfold I64; omega) | omega | (simp <;> omega) | (intros; omega), ?_⟩))
  (repeat (first | refine g1 ?_ | refine g2 ?_ | ((first | refine g3 ?_ | refine g4 ?_ | refine g5 ?_); try simp only [xq, simprocAttr]) | ((first | refine g6 ?_ | refine g7 ?_); simp only [xr, simprocAttr]; repeat (guard_target =~ _ ∧ _; refine ⟨by first | trivial | (unfold I64; omega) | omega | (simp <;> omega) | (intros; omega), ?_⟩))))
  ((try refine Or.inl ?_); refine ⟨_, (hmeanb), .inr (by and_intros <;> first | rfl | (simp; done)), ?_⟩; (try simp only [xr, simprocAttr]); repeat (guard_target =~ _ ∧ _; refine ⟨by first | trivial | (unfold I64; omega) | omega | (simp <;> omega) | (intros; omega), ?_⟩))
  (repeat (first | refine g1 ?_ | refine g2 ?_ | ((first | refine g3 ?_ | refine g4 ?_ | refine g5 ?_); try simp only [xq, simprocAttr]) | ((first | refine g6 ?_ | refine g7 ?_); simp only [xr, simprocAttr]; repeat (guard_target =~ _ ∧ _; refine ⟨by first | trivial | (unfold I64; omega) | omega | (simp <;> omega) | (intros; omega), ?_⟩))))
  ((try refine Or.inl ?_); refine ⟨_, (hMN), .inl rfl, ?_⟩; (try simp only [xr, simprocAttr]); repeat (guard_target =~ _ ∧ _; refine ⟨by first | trivial | (unfold I64; omega) | omega | (simp <;> omega) | (intros; omega), ?_⟩))
  (repeat (first | refine g1 ?_ | refine g2 ?_ | ((first | refine g3 ?_ | refine g4 ?_ | refine g5 ?_); try simp only [xq, simprocAttr]) | ((first | refine g6 ?_ | refine g7 ?_); simp only [xr, simprocAttr]; repeat (guard_target =~ _ ∧ _; refine ⟨by first | trivial | (unfold I64; omega) | omega | (simp <;> omega) | (intros; omega), ?_⟩))))
  ((try refine Or.inl ?_); refine ⟨_, (total_d (triB m c i rs cs) hF.sb), .inl rfl, ?_⟩; (try simp only [xr, simprocAttr]); repeat (guard_target =~ _ ∧ _; refine ⟨by first | trivial | (unfold I64; omega) | omega | (simp <;> omega) | (intros; omega), ?_⟩))
  (repeat (first | refine g1 ?_ | refine g2 ?_ | ((first | refine g3 ?_ | refine g4 ?_ | refine g5 ?_); try simp only [xq, simprocAttr]) | ((first | refine g6 ?_ | refine g7 ?_); simp only [xr, simprocAttr]; repeat (guard_target =~ _ ∧ _; refine ⟨by first | trivial | (unfold I64; omega) | omega | (simp <;> omega) | (intros; omega), ?_⟩))))
  ((try refine Or.inl ?_); refine ⟨_, (makeFrac_d (mnN (prL (colsOf c m) (triB m c i rs cs) m.length) (m.length - 1)) (triB m c i rs cs).sum b1 (by omega) (by omega) (by omega)), .inl rfl, ?_⟩; (try simp only [xr, simprocAttr]); repeat (guard_target =~ _ ∧ _; refine ⟨by first | trivial | (unfold I64; omega) | omega | (simp <;> omega) | (intros; omega), ?_⟩))
  (repeat (first | refine g1 ?_ | refine g2 ?_ | ((first | refine g3 ?_ | refine g4 ?_ | refine g5 ?_); try simp only [xq, simprocAttr]) | ((first | refine g6 ?_ | refine g7 ?_); simp only [xr, simprocAttr]; repeat (guard_target =~ _ ∧ _; refine ⟨by first | trivial | (unfold I64; omega) | omega | (simp <;> omega) | (intros; omega), ?_⟩))))
  ((try refine Or.inl ?_); refine ⟨_, (compareFracs_d (triMost m c i rs cs) (triV m c i rs cs) frI frI), .inl rfl, ?_⟩; (try simp only [xr, simprocAttr]); repeat (guard_target =~ _ ∧ _; refine ⟨by first | trivial | (unfold I64; omega) | omega | (simp <;> omega) | (intros; omega), ?_⟩))
  (repeat (first | refine g1 ?_ | refine g2 ?_ | ((first | refine g3 ?_ | refine g4 ?_ | refine g5 ?_); try simp only [xq, simprocAttr]) | ((first | refine g6 ?_ | refine g7 ?_); simp only [xr, simprocAttr]; repeat (guard_target =~ _ ∧ _; refine ⟨by first | trivial | (unfold I64; omega) | omega | (simp <;> omega) | (intros; omega), ?_⟩))))
  ((try refine Or.inl ?_); refine ⟨_, (fun _ => compareFracs_d (triLeast m c i rs cs) (triV m c i rs cs) frI frI), .inl rfl, ?_⟩; (try simp only [xr, simprocAttr]); repeat (guard_target =~ _ ∧ _; refine ⟨by first | trivial | (unfold I64; omega) | omega | (simp <;> omega) | (intros; omega), ?_⟩))
  (repeat (first | refine g1 ?_ | refine g2 ?_ | ((first | refine g3 ?_ | refine g4 ?_ | refine g5 ?_); try simp only [xq, simprocAttr]) | ((first | refine g6 ?_ | refine g7 ?_); simp only [xr, simprocAttr]; repeat (guard_target =~ _ ∧ _; refine ⟨by first | trivial | (unfold I64; omega) | omega | (simp <;> omega) | (intros; omega), ?_⟩))))
  refine awp_cond (by first | rfl | (simp only [xr, simprocAttr]; rfl)) (fun hy => ?_) (fun hy => ?_)
  · have hn : triQ m c i rs cs = none := if_neg fun hh => by
      have h3 := hh.2.1
      have h4 := hh.2.2
      revert hy
      simp
      omega
    rw [hn]
    (repeat (first | refine g1 ?_ | refine g2 ?_ | ((first | refine g3 ?_ | refine g4 ?_ | refine g5 ?_); try simp only [xq, simprocAttr]) | ((first | refine g6 ?_ | refine g7 ?_); simp only [xr, simprocAttr]; repeat (guard_target =~ _ ∧ _; refine ⟨by first | trivial | (unfold I64; omega) | omega | (simp <;> omega) | (intros; omega), ?_⟩))))
    (simp only [ends_normal, ends_ret]; refine retH_2 (vs := [_, _, _, _]) [] rfl trivial rfl rfl rfl rfl ⟨rfl, rfl, ⟨by simp only [xr, simprocAttr] <;> (and_intros <;> first | trivial | (unfold I64; omega) | omega | (simp <;> omega) | (intros; omega)), rfl⟩, rfl, trivial⟩ ?_; try rfl)
    all_goals rfl
  have ht2 : tri2 m c i rs cs := by
    unfold tri2
    revert hy
    simp
  have hn : triQ m c i rs cs = some (triS m c i rs cs) := if_pos ⟨ht1, ht2⟩
  rw [hn]
  have hla2 : (triA m i rs cs).length ≤ 100 := by omega
  have hlb2 : (triB m c i rs cs).length ≤ 100 := by omega
  (repeat (first | refine g1 ?_ | refine g2 ?_ | ((first | refine g3 ?_ | refine g4 ?_ | refine g5 ?_); try simp only [xq, simprocAttr]) | ((first | refine g6 ?_ | refine g7 ?_); simp only [xr, simprocAttr]; repeat (guard_target =~ _ ∧ _; refine ⟨by first | trivial | (unfold I64; omega) | omega | (simp <;> omega) | (intros; omega), ?_⟩))))
  ((repeat (first | refine g1 ?_ | refine g2 ?_ | ((first | refine g3 ?_ | refine g4 ?_); try simp only [xq, simprocAttr]))); refine awp_anyG 2 [(1, [5]), (3, [6]), (7, [0])] [0, 5, 6] [(1, [0, 6]), (3, [0, 5]), (7, [5, 6]), (5, [0, 6]), (6, [0, 5])] ?_; simp (maxSteps := 3000000) only [xg, xr, simprocAttr]; repeat (guard_target =~ _ ∧ _; refine ⟨by first | (guard_target =~ _ = _; rfl) | (guard_target =~ (_ : Int) ≤ _; omega) | (first | trivial | (unfold I64; omega) | omega | (simp <;> omega) | (intros; omega)), ?_⟩))
  (refine .inr ⟨_, _, callG_b (shares_h (triA m i rs cs) hF.sa a1 (by omega) (fun j => by have := hF.a j; omega) hla2) rfl rfl rfl rfl rfl rfl, ?_⟩; (try simp (maxSteps := 3000000) only [xg, xr, simprocAttr]); repeat (guard_target =~ _ ∧ _; refine ⟨by first | (guard_target =~ _ = _; rfl) | (guard_target =~ (_ : Int) ≤ _; omega) | (first | trivial | (unfold I64; omega) | omega | (simp <;> omega) | (intros; omega)), ?_⟩))
  (refine .inr ⟨_, _, callG_b (shares_h (triB m c i rs cs) hF.sb b1 (by omega) (fun j => by have := hF.b j; omega) hlb2) rfl rfl rfl rfl rfl rfl, ?_⟩; (try simp (maxSteps := 3000000) only [xg, xr, simprocAttr]); repeat (guard_target =~ _ ∧ _; refine ⟨by first | (guard_target =~ _ = _; rfl) | (guard_target =~ (_ : Int) ≤ _; omega) | (first | trivial | (unfold I64; omega) | omega | (simp <;> omega) | (intros; omega)), ?_⟩))
  (repeat (first | refine g1 ?_ | refine g2 ?_ | ((first | refine g3 ?_ | refine g4 ?_ | refine g5 ?_); try simp only [xq, simprocAttr]) | ((first | refine g6 ?_ | refine g7 ?_); simp only [xr, simprocAttr]; repeat (guard_target =~ _ ∧ _; refine ⟨by first | trivial | (unfold I64; omega) | omega | (simp <;> omega) | (intros; omega), ?_⟩))))
  (simp only [ends_normal, ends_ret]; refine retH_2 (vs := [_, _, _, _]) [5, 6] rfl ⟨rfl, rfl, trivial⟩ rfl rfl rfl rfl ⟨rfl, rfl, ⟨by simp only [xr, simprocAttr] <;> (and_intros <;> first | trivial | (unfold I64; omega) | omega | (simp <;> omega) | (intros; omega)), rfl⟩, rfl, trivial⟩ ?_; try rfl)
  all_goals rfl
end Go.Proofs.Ytpihfeganpdjiaa
