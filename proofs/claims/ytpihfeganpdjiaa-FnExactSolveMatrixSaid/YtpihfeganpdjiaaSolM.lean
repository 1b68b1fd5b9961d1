/- Balanced numbers by the program, on the machine. Conditions: small square matrices. -/
import Derived.Test.YtpihfeganpdjiaaSolK
set_option linter.all false
set_option linter.unusedSimpArgs false
set_option linter.unusedVariables false
namespace Go.Proofs.Ytpihfeganpdjiaa
open Go Go.RowKit Am

theorem rep_d (v : Int) (n : Nat) (h0 : 0 < n) (hn : n ≤ 1000) : Does Try.prog 59 [.sl (.ints [v]), .int n] (.imm (.sl (.ints (List.replicate n v)))) := imm_of (repH v n h0 hn)
def sysR (n : Nat) (m : List (List Int)) (j : Nat) : List Int := (List.range n).map fun i => at2L m i (j + 1) - at2L m i 0
def sysP (n : Nat) (m : List (List Int)) (q : Nat) : List (List Int) := (List.range q).map (sysR n m)
theorem sysP_next (n : Nat) (m : List (List Int)) (q : Nat) : sysP n m (q + 1) = sysP n m q ++ [sysR n m q] := by
  unfold sysP
  rw [List.range_succ, List.map_append]
  rfl
theorem sysP_len (n : Nat) (m : List (List Int)) (q : Nat) : (sysP n m q).length = q := by simp [sysP]
theorem sysR_len (n : Nat) (m : List (List Int)) (q : Nat) : (sysR n m q).length = n := by simp [sysR]
theorem sysR_next {n : Nat} {m : List (List Int)} {q i : Nat} (h : i < n) : (sysR n m q).take (i + 1) = (sysR n m q).take i ++ [at2L m i (q + 1) - at2L m i 0] := by
  rw [take_getD (by rw [sysR_len]; exact h) 0, getD_inQ (by rw [sysR_len]; exact h)]
  simp [sysR]
theorem sysI_eq (n : Nat) (m : List (List Int)) : sysP n m (n - 1) ++ [List.replicate n 1] = sysI n m := rfl
theorem at2_bd {n : Nat} {m : List (List Int)} (h : SqM n 40 m) (i j : Nat) : -40 ≤ at2L m i j ∧ at2L m i j ≤ 40 := ent_bd (by decide) h i j
theorem sysI_sq {n : Nat} {m : List (List Int)} (hn : 1 ≤ n) (h : SqM n 40 m) : SqM n 80 (sysI n m) := by
  refine ⟨by simp [sysI]; omega, fun r hr => ?_, fun r hr x hx => ?_⟩
  · unfold sysI at hr
    rcases List.mem_append.1 hr with h1 | h1
    · obtain ⟨k, _, rfl⟩ := List.mem_map.1 h1
      simp
    · rw [List.mem_singleton] at h1
      subst h1
      simp
  · unfold sysI at hr
    rcases List.mem_append.1 hr with h1 | h1
    · obtain ⟨k, _, rfl⟩ := List.mem_map.1 h1
      obtain ⟨i, _, rfl⟩ := List.mem_map.1 hx
      have h2 := at2_bd h i (k + 1)
      have h3 := at2_bd h i 0
      omega
    · rw [List.mem_singleton] at h1
      subst h1
      have := List.eq_of_mem_replicate hx
      omega
def solIK (n : Nat) (m : List (List Int)) (k : Nat) : List Int := (List.range k).map (solI n m)
theorem solIK_next (n : Nat) (m : List (List Int)) (k : Nat) : solIK n m (k + 1) = solIK n m k ++ [solI n m k] := by
  unfold solIK
  rw [List.range_succ, List.map_append]
  rfl
theorem solIK_len (n : Nat) (m : List (List Int)) (k : Nat) : (solIK n m k).length = k := by simp [solIK]
def balL (n : Nat) (m : List (List Int)) : List Int := (List.range n).map fun i => sgF (detL n (sysI n m)) * solI n m i
def balR (n : Nat) (m : List (List Int)) : AV := if detL n (sysI n m) = 0 then .tup [.one (.b (.val (.slice none 0 0))), .one (.b (.val (.bool false)))] else .tup [.one (.b (.sl (.ints (balL n m)))), .one (.b (.val (.bool true)))]
/-- the system's first rows with a changed column -/
def wiN (i : Nat) (s : List (List Int)) (k : Nat) : List (List Int) := (List.range s.length).map fun t => if t < k then (s.getD t []).set i 0 else s.getD t []
theorem wiN_0 (i : Nat) (s : List (List Int)) : wiN i s 0 = s := by
  refine List.ext_getElem (by simp [wiN]) fun j h1 h2 => ?_
  simp [wiN, h2]
theorem wiN_len (i : Nat) (s : List (List Int)) (k : Nat) : (wiN i s k).length = s.length := by simp [wiN]
theorem wiN_at {i : Nat} {s : List (List Int)} {k t : Nat} (h : t < s.length) : (wiN i s k).getD t [] = if t < k then (s.getD t []).set i 0 else s.getD t [] := by
  rw [getD_inQ (by rw [wiN_len]; exact h)]
  simp [wiN]
theorem wiN_set {i : Nat} {s : List (List Int)} {k : Nat} (h : k < s.length) : (wiN i s k).set k ((s.getD k []).set i 0) = wiN i s (k + 1) := by
  refine List.ext_getElem (by simp [wiN]) fun j h1 h2 => ?_
  rw [List.getElem_set]
  by_cases he : k = j
  · subst he
    rw [if_pos rfl]
    simp [wiN]
  · rw [if_neg he]
    simp only [wiN, List.getElem_map, List.getElem_range]
    by_cases hj : j < k
    · rw [if_pos hj, if_pos (by omega)]
    · rw [if_neg hj, if_neg (by omega)]
theorem wiN_last {n i : Nat} {s : List (List Int)} (hn : 1 ≤ n) (h : s.length = n) : (wiN i s n).set (n - 1) (((s.getD (n - 1) []).set i 0).set i 1) = withI n i s := by
  refine List.ext_getElem (by simp [wiN, withI, h]) fun j h1 h2 => ?_
  have hj : j < n := by simpa [withI] using h2
  rw [List.getElem_set]
  simp only [wiN, withI, List.getElem_map, List.getElem_range, List.set_set]
  by_cases he : n - 1 = j
  · rw [if_pos he, if_pos (by omega), he]
  · rw [if_neg he, if_pos hj, if_neg (by omega)]
/-- the first numbers with the other sign -/
def ngN (xs : List Int) (k : Nat) : List Int := (List.range xs.length).map fun t => if t < k then -xs.getD t 0 else xs.getD t 0
theorem ngN_0 (xs : List Int) : ngN xs 0 = xs := by
  refine List.ext_getElem (by simp [ngN]) fun j h1 h2 => ?_
  simp [ngN, h2]
theorem ngN_len (xs : List Int) (k : Nat) : (ngN xs k).length = xs.length := by simp [ngN]
theorem ngN_at {xs : List Int} {k : Nat} (h : k < xs.length) : (ngN xs k).getD k 0 = xs.getD k 0 := by
  rw [getD_inQ (by rw [ngN_len]; exact h)]
  simp [ngN]
theorem ngN_set {xs : List Int} {k : Nat} (h : k < xs.length) : (ngN xs k).set k (-xs.getD k 0) = ngN xs (k + 1) := by
  refine List.ext_getElem (by simp [ngN]) fun j h1 h2 => ?_
  rw [List.getElem_set]
  by_cases he : k = j
  · subst he
    rw [if_pos rfl]
    simp [ngN]
  · rw [if_neg he]
    simp only [ngN, List.getElem_map, List.getElem_range]
    by_cases hj : j < k
    · rw [if_pos hj, if_pos (by omega)]
    · rw [if_neg hj, if_neg (by omega)]
theorem solIK_at {n : Nat} {m : List (List Int)} {j : Nat} (h : j < n) : (solIK n m n).getD j 0 = solI n m j := by
  rw [getD_inQ (by rw [solIK_len]; exact h)]
  simp [solIK]
theorem bal_neg {n : Nat} {m : List (List Int)} (h : detL n (sysI n m) < 0) : ngN (solIK n m n) n = balL n m := by
  unfold ngN balL
  rw [solIK_len]
  refine List.map_congr_left fun j hj => ?_
  have hj := List.mem_range.1 hj
  rw [if_pos hj, solIK_at hj]
  unfold sgF
  rw [if_pos h, Int.neg_mul, Int.one_mul]
theorem bal_pos {n : Nat} {m : List (List Int)} (h : ¬detL n (sysI n m) < 0) : solIK n m n = balL n m := by
  unfold solIK balL sgF
  rw [if_neg h]
  simp
set_option maxHeartbeats 4000000 in
theorem balanced_d (m : List (List Int)) (n : Nat) (h1 : 1 ≤ n) (h3 : n ≤ 3) (hm : SqM n 40 m) : Does Try.prog 43 [.sl (.ii m)] (.imm (balR n m)) := by
  have hS := sysI_sq h1 hm
  have hdb := det_bd (by decide) hS
  have hD := dBd_le (n := n) (by omega)
  have hsl := hS.len
  have hml := hm.len
  unfold balR
  refine spec_imm Try.func43 rfl Try.ntmps43 cfOK (fun _ _ => by kernel_rfl) rfl (Nat.le_of_ble_eq_true rfl) ?_
  intro M0 w0
  rw [Try.results43]
  (repeat (first | refine g1 ?_ | refine g2 ?_ | ((first | refine g3 ?_ | refine g4 ?_ | refine g5 ?_); try simp only [xq, simprocAttr]) | ((first | refine g6 ?_ | refine g7 ?_); simp only [xr, simprocAttr]; repeat (guard_target =~ _ ∧ _; refine ⟨by first | trivial | (unfold I64; omega) | omega | (simp <;> omega) | (intros; omega), ?_⟩))))
  rw [hml]
  refine awp_rounds (α := Nat) (fun q => [(6, true, .int ((q : Int) + 1))]) [0, 4, 5] (fun q => [.row 36 (.ii (sysP n m q))]) (fun q => q ≤ n - 1) (fun q => n - 1 - q) 0 (by ((try simp only [xk]); (repeat (refine leK_cons ?_ ?_; first | (focus (first | rfl | (simp only [xr, simprocAttr]; done) | (simp only [xr, simprocAttr]; refine int_eq1 ?_; first | trivial | (unfold I64; omega) | omega | (simp <;> omega) | (intros; omega)))) | rotate_left)); (refine leK_nil ?_; exact (by rfl)); (all_goals (try (simp only [xr, simprocAttr]; try refine int_eq1 ?_))))) (Nat.zero_le _) fun q hq => ?_
  have hpl := sysP_len n m q
  simp only [xr, simprocAttr]
  rw [show ((q : Int) + 1) = ((q + 1 : Nat) : Int) by omega]
  (repeat (first | refine g1 ?_ | refine g2 ?_ | ((first | refine g3 ?_ | refine g4 ?_ | refine g5 ?_); try simp only [xq, simprocAttr]) | ((first | refine g6 ?_ | refine g7 ?_); simp only [xr, simprocAttr]; repeat (guard_target =~ _ ∧ _; refine ⟨by first | trivial | (unfold I64; omega) | omega | (simp <;> omega) | (intros; omega), ?_⟩))))
  refine awp_cond (by first | rfl | (simp only [xr, simprocAttr]; rfl)) (fun hd => ?_) (fun hd => ?_)
  · have hd := of_decide_eq_true hd
    have hq' : q < n - 1 := by omega
    have hnx := sysP_next n m q
    have hrl := sysR_len n m q
    (repeat (first | refine g1 ?_ | refine g2 ?_ | ((first | refine g3 ?_ | refine g4 ?_ | refine g5 ?_); try simp only [xq, simprocAttr]) | ((first | refine g6 ?_ | refine g7 ?_); simp only [xr, simprocAttr]; repeat (guard_target =~ _ ∧ _; refine ⟨by first | trivial | (unfold I64; omega) | omega | (simp <;> omega) | (intros; omega), ?_⟩))))
    refine awp_rounds (α := Nat) (fun i => [(25, true, .int i)]) [0, 4, 5, 6, 7, 24] (fun i => [.row 36 (.ii (sysP n m q)), .row 3 (.ints ((sysR n m q).take i))]) (fun i => i ≤ n) (fun i => n - i) 0 (by ((try simp only [xk]); (repeat (refine leK_cons ?_ ?_; first | (focus (first | rfl | (simp only [xr, simprocAttr]; done) | (simp only [xr, simprocAttr]; refine int_eq1 ?_; first | trivial | (unfold I64; omega) | omega | (simp <;> omega) | (intros; omega)))) | rotate_left)); (refine leK_nil ?_; exact (by rfl)); (all_goals (try (simp only [xr, simprocAttr]; try refine int_eq1 ?_))))) (Nat.zero_le _) fun i hi => ?_
    have hil : ((sysR n m q).take i).length ≤ i := by rw [List.length_take]; omega
    simp only [xr, simprocAttr]
    (repeat (first | refine g1 ?_ | refine g2 ?_ | ((first | refine g3 ?_ | refine g4 ?_ | refine g5 ?_); try simp only [xq, simprocAttr]) | ((first | refine g6 ?_ | refine g7 ?_); simp only [xr, simprocAttr]; repeat (guard_target =~ _ ∧ _; refine ⟨by first | trivial | (unfold I64; omega) | omega | (simp <;> omega) | (intros; omega), ?_⟩))))
    refine awp_cond (by first | rfl | (simp only [xr, simprocAttr]; rfl)) (fun he => ?_) (fun he => ?_)
    · have he := of_decide_eq_true he
      have hi' : i < n := by omega
      have hri : (m.getD i []).length = n := by rw [getD_inQ (by omega)]; exact hm.row _ (List.getElem_mem _)
      have hnr := sysR_next (m := m) (q := q) hi'
      have hb1 := at2_bd hm i (q + 1)
      have hb2 := at2_bd hm i 0
      unfold at2L at hnr hb1 hb2
      (repeat (first | refine g1 ?_ | refine g2 ?_ | ((first | refine g3 ?_ | refine g4 ?_ | refine g5 ?_); try simp only [xq, simprocAttr]) | ((first | refine g6 ?_ | refine g7 ?_); simp only [xr, simprocAttr]; repeat (guard_target =~ _ ∧ _; refine ⟨by first | trivial | (unfold I64; omega) | omega | (simp <;> omega) | (intros; omega), ?_⟩))))
      ((repeat (first | refine g1 ?_ | refine g2 ?_ | ((first | refine g3 ?_ | refine g4 ?_); try simp only [xq, simprocAttr]))); refine awp_anyG 1 [(16, [2, 1])] [2, 1] [(16, []), (17, [1])] ?_; simp (maxSteps := 3000000) only [xg, xr, simprocAttr]; repeat (guard_target =~ _ ∧ _; refine ⟨by first | (guard_target =~ _ = _; rfl) | (guard_target =~ (_ : Int) ≤ _; omega) | (first | trivial | (unfold I64; omega) | omega | (simp <;> omega) | (intros; omega)), ?_⟩))
      (refine awp_mv 1 2 rfl rfl (by decide) rfl rfl ?_; simp only [xm, simprocAttr])
      (repeat (first | refine g1 ?_ | refine g2 ?_ | ((first | refine g3 ?_ | refine g4 ?_ | refine g5 ?_); try simp only [xq, simprocAttr]) | ((first | refine g6 ?_ | refine g7 ?_); simp only [xr, simprocAttr]; repeat (guard_target =~ _ ∧ _; refine ⟨by first | trivial | (unfold I64; omega) | omega | (simp <;> omega) | (intros; omega), ?_⟩))))
      refine ⟨i + 1, by omega, by omega, .inr ⟨2, Nat.le_of_ble_eq_true rfl, leT_of ?_ rfl rfl rfl⟩⟩
      ((try simp only [xk]); (repeat (refine leK_cons ?_ ?_; first | (focus (first | rfl | (simp only [xr, simprocAttr]; done) | (simp only [xr, simprocAttr]; refine int_eq1 ?_; first | trivial | (unfold I64; omega) | omega | (simp <;> omega) | (intros; omega)))) | rotate_left)); (refine leK_nil ?_; exact (by rw [hnr]; rfl)); (all_goals (try (simp only [xr, simprocAttr]; try refine int_eq1 ?_))))
    · have he := of_decide_eq_false he
      obtain rfl : i = n := by omega
      rw [show (sysR i m q).take i = sysR i m q from List.take_of_length_le (by omega)]
      (repeat (first | refine g1 ?_ | refine g2 ?_ | ((first | refine g3 ?_ | refine g4 ?_); try simp only [xq, simprocAttr])))
      (refine awp_frz 1 rfl ?_; simp only [xz, simprocAttr])
      (repeat (first | refine g1 ?_ | refine g2 ?_ | ((first | refine g3 ?_ | refine g4 ?_ | refine g5 ?_); try simp only [xq, simprocAttr]) | ((first | refine g6 ?_ | refine g7 ?_); simp only [xr, simprocAttr]; repeat (guard_target =~ _ ∧ _; refine ⟨by first | trivial | (unfold I64; omega) | omega | (simp <;> omega) | (intros; omega), ?_⟩))))
      refine ⟨q + 1, by omega, by omega, .inr ⟨1, Nat.le_of_ble_eq_true rfl, leT_of ?_ rfl rfl rfl⟩⟩
      ((try simp only [xk]); (repeat (refine leK_cons ?_ ?_; first | (focus (first | rfl | (simp only [xr, simprocAttr]; done) | (simp only [xr, simprocAttr]; refine int_eq1 ?_; first | trivial | (unfold I64; omega) | omega | (simp <;> omega) | (intros; omega)))) | rotate_left)); (refine leK_nil ?_; exact (by rw [hnx]; rfl)); (all_goals (try (simp only [xr, simprocAttr]; try refine int_eq1 ?_))))
  have hd := of_decide_eq_false hd
  obtain rfl : q = n - 1 := by omega
  (repeat (first | refine g1 ?_ | refine g2 ?_ | ((first | refine g3 ?_ | refine g4 ?_ | refine g5 ?_); try simp only [xq, simprocAttr]) | ((first | refine g6 ?_ | refine g7 ?_); simp only [xr, simprocAttr]; repeat (guard_target =~ _ ∧ _; refine ⟨by first | trivial | (unfold I64; omega) | omega | (simp <;> omega) | (intros; omega), ?_⟩))))
  ((try refine Or.inl ?_); refine ⟨_, (rep_d 1 n (by omega) (by omega)), .inr (by and_intros <;> first | rfl | (simp; done)), ?_⟩; (try simp only [xr, simprocAttr]); repeat (guard_target =~ _ ∧ _; refine ⟨by first | trivial | (unfold I64; omega) | omega | (simp <;> omega) | (intros; omega), ?_⟩))
  (repeat (first | refine g1 ?_ | refine g2 ?_ | ((first | refine g3 ?_ | refine g4 ?_ | refine g5 ?_); try simp only [xq, simprocAttr]) | ((first | refine g6 ?_ | refine g7 ?_); simp only [xr, simprocAttr]; repeat (guard_target =~ _ ∧ _; refine ⟨by first | trivial | (unfold I64; omega) | omega | (simp <;> omega) | (intros; omega), ?_⟩))))
  rw [sysI_eq]
  ((try refine Or.inl ?_); refine ⟨_, (determinant_d n h3 (sysI n m) hS), .inl rfl, ?_⟩; (try simp only [xr, simprocAttr]); repeat (guard_target =~ _ ∧ _; refine ⟨by first | trivial | (unfold I64; omega) | omega | (simp <;> omega) | (intros; omega), ?_⟩))
  (refine awp_frz 0 rfl ?_; simp only [xz, simprocAttr])
  (repeat (first | refine g1 ?_ | refine g2 ?_ | ((first | refine g3 ?_ | refine g4 ?_ | refine g5 ?_); try simp only [xq, simprocAttr]) | ((first | refine g6 ?_ | refine g7 ?_); simp only [xr, simprocAttr]; repeat (guard_target =~ _ ∧ _; refine ⟨by first | trivial | (unfold I64; omega) | omega | (simp <;> omega) | (intros; omega), ?_⟩))))
  refine awp_cond (by first | rfl | (simp only [xr, simprocAttr]; rfl)) (fun hz => ?_) (fun hz => ?_)
  · have hz := of_decide_eq_true hz
    rw [if_pos hz]
    (repeat (first | refine g1 ?_ | refine g2 ?_ | ((first | refine g3 ?_ | refine g4 ?_ | refine g5 ?_); try simp only [xq, simprocAttr]) | ((first | refine g6 ?_ | refine g7 ?_); simp only [xr, simprocAttr]; repeat (guard_target =~ _ ∧ _; refine ⟨by first | trivial | (unfold I64; omega) | omega | (simp <;> omega) | (intros; omega), ?_⟩))))
    (simp only [xe, simprocAttr]; refine ⟨[_, _], ⟨rfl, rfl, trivial⟩, rfl, Imp.eq ?_⟩)
    rfl
  have hz := of_decide_eq_false hz
  rw [if_neg hz]
  (repeat (first | refine g1 ?_ | refine g2 ?_ | ((first | refine g3 ?_ | refine g4 ?_ | refine g5 ?_); try simp only [xq, simprocAttr]) | ((first | refine g6 ?_ | refine g7 ?_); simp only [xr, simprocAttr]; repeat (guard_target =~ _ ∧ _; refine ⟨by first | trivial | (unfold I64; omega) | omega | (simp <;> omega) | (intros; omega), ?_⟩))))
  refine awp_rounds (α := Nat) (fun i => [(62, true, .int i)]) [4, 5, 9, 10, 61] (fun i => [.gone, .row 3 (.ints (solIK n m i))]) (fun i => i ≤ n) (fun i => n - i) 0 (by ((try simp only [xk]); (repeat (refine leK_cons ?_ ?_; first | (focus (first | rfl | (simp only [xr, simprocAttr]; done) | (simp only [xr, simprocAttr]; refine int_eq1 ?_; first | trivial | (unfold I64; omega) | omega | (simp <;> omega) | (intros; omega)))) | rotate_left)); (refine leK_nil ?_; exact (by rfl)); (all_goals (try (simp only [xr, simprocAttr]; try refine int_eq1 ?_))))) (Nat.zero_le _) fun i hi => ?_
  have hkl := solIK_len n m i
  simp only [xr, simprocAttr]
  (repeat (first | refine g1 ?_ | refine g2 ?_ | ((first | refine g3 ?_ | refine g4 ?_ | refine g5 ?_); try simp only [xq, simprocAttr]) | ((first | refine g6 ?_ | refine g7 ?_); simp only [xr, simprocAttr]; repeat (guard_target =~ _ ∧ _; refine ⟨by first | trivial | (unfold I64; omega) | omega | (simp <;> omega) | (intros; omega), ?_⟩))))
  refine awp_cond (by first | rfl | (simp only [xr, simprocAttr]; rfl)) (fun he => ?_) (fun he => ?_)
  · have he := of_decide_eq_true he
    have hi' : i < n := by omega
    have hdw := det_bd (by decide) (withI_sq (i := i) hS)
    have hnx := solIK_next n m i
    have hro : ∀ r ∈ sysI n m, r.length ≤ 100 := fun r hr => by rw [hS.row r hr]; omega
    (repeat (first | refine g1 ?_ | refine g2 ?_ | ((first | refine g3 ?_ | refine g4 ?_ | refine g5 ?_); try simp only [xq, simprocAttr]) | ((first | refine g6 ?_ | refine g7 ?_); simp only [xr, simprocAttr]; repeat (guard_target =~ _ ∧ _; refine ⟨by first | trivial | (unfold I64; omega) | omega | (simp <;> omega) | (intros; omega), ?_⟩))))
    (refine .inr (callW_a [] (ownTable_h (sysI n m) (by omega) hro) rfl rfl rfl rfl trivial rfl rfl rfl rfl ?_); (try simp only [xr, simprocAttr]); repeat (guard_target =~ _ ∧ _; refine ⟨by first | trivial | (unfold I64; omega) | omega | (simp <;> omega) | (intros; omega), ?_⟩))
    (repeat (first | refine g1 ?_ | refine g2 ?_ | ((first | refine g3 ?_ | refine g4 ?_ | refine g5 ?_); try simp only [xq, simprocAttr]) | ((first | refine g6 ?_ | refine g7 ?_); simp only [xr, simprocAttr]; repeat (guard_target =~ _ ∧ _; refine ⟨by first | trivial | (unfold I64; omega) | omega | (simp <;> omega) | (intros; omega), ?_⟩))))
    rw [hsl]
    refine awp_rounds (α := Nat) (fun k => [(69, true, .int k)]) [4, 5, 9, 10, 11, 12, 61, 62, 68] (fun k => [.gone, .row 3 (.ints (solIK n m i)), .tree [36, 3] (.ii (wiN i (sysI n m) k))]) (fun k => k ≤ n) (fun k => n - k) 0 (by ((try simp only [xk]); (repeat (refine leK_cons ?_ ?_; first | (focus (first | rfl | (simp only [xr, simprocAttr]; done) | (simp only [xr, simprocAttr]; refine int_eq1 ?_; first | trivial | (unfold I64; omega) | omega | (simp <;> omega) | (intros; omega)))) | rotate_left)); (refine leK_nil ?_; exact (by rw [wiN_0])); (all_goals (try (simp only [xr, simprocAttr]; try refine int_eq1 ?_))))) (Nat.zero_le _) fun k hk => ?_
    have hwl := wiN_len i (sysI n m) k
    simp only [xr, simprocAttr]
    (repeat (first | refine g1 ?_ | refine g2 ?_ | ((first | refine g3 ?_ | refine g4 ?_ | refine g5 ?_); try simp only [xq, simprocAttr]) | ((first | refine g6 ?_ | refine g7 ?_); simp only [xr, simprocAttr]; repeat (guard_target =~ _ ∧ _; refine ⟨by first | trivial | (unfold I64; omega) | omega | (simp <;> omega) | (intros; omega), ?_⟩))))
    refine awp_cond (by first | rfl | (simp only [xr, simprocAttr]; rfl)) (fun hq => ?_) (fun hq => ?_)
    · have hq := of_decide_eq_true hq
      have hk' : k < n := by omega
      have hst := wiN_set (i := i) (s := sysI n m) (k := k) (by omega)
      have hat := wiN_at (i := i) (s := sysI n m) (k := k) (t := k) (by omega)
      rw [if_neg (by omega)] at hat
      have hrl : ((sysI n m).getD k []).length = n := by rw [getD_inQ (by omega)]; exact hS.row _ (List.getElem_mem _)
      ((repeat (first | refine g1 ?_ | refine g2 ?_ | ((first | refine g3 ?_ | refine g4 ?_); try simp only [xq, simprocAttr]))); ((first | refine g6 ?_ | refine g7 ?_); simp only [xr, simprocAttr]; repeat (guard_target =~ _ ∧ _; refine ⟨by first | trivial | (unfold I64; omega) | omega | (simp <;> omega) | (intros; omega), ?_⟩)); (repeat (first | refine g1 ?_ | refine g2 ?_ | ((first | refine g3 ?_ | refine g4 ?_); try simp only [xq, simprocAttr]))))
      (refine awp_foc 2 (k) rfl (by first | (show _ < List.length _; omega) | first | trivial | (unfold I64; omega) | omega | (simp <;> omega) | (intros; omega)) ?_; simp only [xr, simprocAttr])
      rw [hat]
      ((repeat (first | refine g1 ?_ | refine g2 ?_ | ((first | refine g3 ?_ | refine g4 ?_); try simp only [xq, simprocAttr]))); ((first | refine g6 ?_ | refine g7 ?_); simp only [xr, simprocAttr]; repeat (guard_target =~ _ ∧ _; refine ⟨by first | trivial | (unfold I64; omega) | omega | (simp <;> omega) | (intros; omega), ?_⟩)); (repeat (first | refine g1 ?_ | refine g2 ?_ | ((first | refine g3 ?_ | refine g4 ?_); try simp only [xq, simprocAttr]))))
      (refine awp_unf 2 rfl (by decide) rfl rfl (by first | (show _ < List.length _; omega) | first | trivial | (unfold I64; omega) | omega | (simp <;> omega) | (intros; omega)) rfl ?_; simp only [xu, simprocAttr])
      rw [hst]
      (repeat (first | refine g1 ?_ | refine g2 ?_ | ((first | refine g3 ?_ | refine g4 ?_ | refine g5 ?_); try simp only [xq, simprocAttr]) | ((first | refine g6 ?_ | refine g7 ?_); simp only [xr, simprocAttr]; repeat (guard_target =~ _ ∧ _; refine ⟨by first | trivial | (unfold I64; omega) | omega | (simp <;> omega) | (intros; omega), ?_⟩))))
      refine ⟨k + 1, by omega, by omega, .inr ⟨3, Nat.le_of_ble_eq_true rfl, leT_of ?_ rfl rfl rfl⟩⟩
      ((try simp only [xk]); (repeat (refine leK_cons ?_ ?_; first | (focus (first | rfl | (simp only [xr, simprocAttr]; done) | (simp only [xr, simprocAttr]; refine int_eq1 ?_; first | trivial | (unfold I64; omega) | omega | (simp <;> omega) | (intros; omega)))) | rotate_left)); (refine leK_nil ?_; exact (by rfl)); (all_goals (try (simp only [xr, simprocAttr]; try refine int_eq1 ?_))))
    · have hq := of_decide_eq_false hq
      obtain rfl : k = n := by omega
      have hat := wiN_at (i := i) (s := sysI k m) (k := k) (t := k - 1) (by omega)
      rw [if_pos (by omega)] at hat
      have hla := wiN_last (i := i) h1 hsl
      have hrl : ((sysI k m).getD (k - 1) []).length = k := by rw [getD_inQ (by omega)]; exact hS.row _ (List.getElem_mem _)
      have hk1 : ((k : Int) - 1).toNat = k - 1 := by omega
      (refine awp_foc 2 (k - 1) rfl (by first | (show _ < List.length _; omega) | first | trivial | (unfold I64; omega) | omega | (simp <;> omega) | (intros; omega)) ?_; simp only [xr, simprocAttr])
      rw [hat]
      ((repeat (first | refine g1 ?_ | refine g2 ?_ | ((first | refine g3 ?_ | refine g4 ?_); try simp only [xq, simprocAttr]))); ((first | refine g6 ?_ | refine g7 ?_); simp only [xr, simprocAttr]; repeat (guard_target =~ _ ∧ _; refine ⟨by first | trivial | (unfold I64; omega) | omega | (simp <;> omega) | (intros; omega), ?_⟩)); (repeat (first | refine g1 ?_ | refine g2 ?_ | ((first | refine g3 ?_ | refine g4 ?_); try simp only [xq, simprocAttr]))))
      (refine awp_unf 2 rfl (by decide) rfl rfl (by first | (show _ < List.length _; omega) | first | trivial | (unfold I64; omega) | omega | (simp <;> omega) | (intros; omega)) rfl ?_; simp only [xu, simprocAttr])
      rw [hla]
      (repeat (first | refine g1 ?_ | refine g2 ?_ | ((first | refine g3 ?_ | refine g4 ?_ | refine g5 ?_); try simp only [xq, simprocAttr]) | ((first | refine g6 ?_ | refine g7 ?_); simp only [xr, simprocAttr]; repeat (guard_target =~ _ ∧ _; refine ⟨by first | trivial | (unfold I64; omega) | omega | (simp <;> omega) | (intros; omega), ?_⟩))))
      ((try refine Or.inl ?_); refine ⟨_, (determinant_d k h3 (withI k i (sysI k m)) (withI_sq hS)), .inl rfl, ?_⟩; (try simp only [xr, simprocAttr]); repeat (guard_target =~ _ ∧ _; refine ⟨by first | trivial | (unfold I64; omega) | omega | (simp <;> omega) | (intros; omega), ?_⟩))
      (repeat (first | refine g1 ?_ | refine g2 ?_ | ((first | refine g3 ?_ | refine g4 ?_ | refine g5 ?_); try simp only [xq, simprocAttr]) | ((first | refine g6 ?_ | refine g7 ?_); simp only [xr, simprocAttr]; repeat (guard_target =~ _ ∧ _; refine ⟨by first | trivial | (unfold I64; omega) | omega | (simp <;> omega) | (intros; omega), ?_⟩))))
      refine ⟨i + 1, by omega, by omega, .inr ⟨2, Nat.le_of_ble_eq_true rfl, leT_of ?_ rfl rfl rfl⟩⟩
      ((try simp only [xk]); (repeat (refine leK_cons ?_ ?_; first | (focus (first | rfl | (simp only [xr, simprocAttr]; done) | (simp only [xr, simprocAttr]; refine int_eq1 ?_; first | trivial | (unfold I64; omega) | omega | (simp <;> omega) | (intros; omega)))) | rotate_left)); (refine leK_nil ?_; exact (by rw [hnx]; rfl)); (all_goals (try (simp only [xr, simprocAttr]; try refine int_eq1 ?_))))
  have he := of_decide_eq_false he
  obtain rfl : i = n := by omega
  (repeat (first | refine g1 ?_ | refine g2 ?_ | ((first | refine g3 ?_ | refine g4 ?_ | refine g5 ?_); try simp only [xq, simprocAttr]) | ((first | refine g6 ?_ | refine g7 ?_); simp only [xr, simprocAttr]; repeat (guard_target =~ _ ∧ _; refine ⟨by first | trivial | (unfold I64; omega) | omega | (simp <;> omega) | (intros; omega), ?_⟩))))
  refine awp_cond (by first | rfl | (simp only [xr, simprocAttr]; rfl)) (fun hs => ?_) (fun hs => ?_)
  · have hs := of_decide_eq_true hs
    have hbn := bal_neg hs
    (repeat (first | refine g1 ?_ | refine g2 ?_ | ((first | refine g3 ?_ | refine g4 ?_ | refine g5 ?_); try simp only [xq, simprocAttr]) | ((first | refine g6 ?_ | refine g7 ?_); simp only [xr, simprocAttr]; repeat (guard_target =~ _ ∧ _; refine ⟨by first | trivial | (unfold I64; omega) | omega | (simp <;> omega) | (intros; omega), ?_⟩))))
    rw [hkl, ← ngN_0 (solIK i m i)]
    refine awp_rounds (α := Nat) (fun k => [(96, true, .int k)]) [10, 95] (fun k => [.gone, .row 3 (.ints (ngN (solIK i m i) k))]) (fun k => k ≤ i) (fun k => i - k) 0 (by ((try simp only [xk]); (repeat (refine leK_cons ?_ ?_; first | (focus (first | rfl | (simp only [xr, simprocAttr]; done) | (simp only [xr, simprocAttr]; refine int_eq1 ?_; first | trivial | (unfold I64; omega) | omega | (simp <;> omega) | (intros; omega)))) | rotate_left)); (refine leK_nil ?_; exact (by rfl)); (all_goals (try (simp only [xr, simprocAttr]; try refine int_eq1 ?_))))) (Nat.zero_le _) fun k hk => ?_
    have hnl := ngN_len (solIK i m i) k
    simp only [xr, simprocAttr]
    (repeat (first | refine g1 ?_ | refine g2 ?_ | ((first | refine g3 ?_ | refine g4 ?_ | refine g5 ?_); try simp only [xq, simprocAttr]) | ((first | refine g6 ?_ | refine g7 ?_); simp only [xr, simprocAttr]; repeat (guard_target =~ _ ∧ _; refine ⟨by first | trivial | (unfold I64; omega) | omega | (simp <;> omega) | (intros; omega), ?_⟩))))
    refine awp_cond (by first | rfl | (simp only [xr, simprocAttr]; rfl)) (fun hq => ?_) (fun hq => ?_)
    · have hq := of_decide_eq_true hq
      have hk' : k < i := by omega
      have hat := ngN_at (xs := solIK i m i) (k := k) (by omega)
      have hst := ngN_set (xs := solIK i m i) (k := k) (by omega)
      have hsb := det_bd (by decide) (withI_sq (i := k) hS)
      have hsa := solIK_at (m := m) hk'
      unfold solI at hsa
      (repeat (first | refine g1 ?_ | refine g2 ?_ | ((first | refine g3 ?_ | refine g4 ?_ | refine g5 ?_); try simp only [xq, simprocAttr]) | ((first | refine g6 ?_ | refine g7 ?_); simp only [xr, simprocAttr]; repeat (guard_target =~ _ ∧ _; refine ⟨by first | trivial | (unfold I64; omega) | omega | (simp <;> omega) | (intros; omega), ?_⟩))))
      rw [hat, hst]
      refine ⟨k + 1, by omega, by omega, .inl ?_⟩
      ((try simp only [xk]); (repeat (refine leK_cons ?_ ?_; first | (focus (first | rfl | (simp only [xr, simprocAttr]; done) | (simp only [xr, simprocAttr]; refine int_eq1 ?_; first | trivial | (unfold I64; omega) | omega | (simp <;> omega) | (intros; omega)))) | rotate_left)); (refine leK_nil ?_; exact (by rfl)); (all_goals (try (simp only [xr, simprocAttr]; try refine int_eq1 ?_))))
    · have hq := of_decide_eq_false hq
      obtain rfl : k = i := by omega
      rw [hbn]
      (repeat (first | refine g1 ?_ | refine g2 ?_ | ((first | refine g3 ?_ | refine g4 ?_); try simp only [xq, simprocAttr]) | ((first | refine g6 ?_ | refine g7 ?_); simp only [xr, simprocAttr]; repeat (guard_target =~ _ ∧ _; refine ⟨by first | trivial | (unfold I64; omega) | omega | (simp <;> omega) | (intros; omega), ?_⟩))))
      (refine awp_frz 1 rfl ?_; simp only [xz, simprocAttr])
      (repeat (first | refine g1 ?_ | refine g2 ?_ | ((first | refine g3 ?_ | refine g4 ?_ | refine g5 ?_); try simp only [xq, simprocAttr]) | ((first | refine g6 ?_ | refine g7 ?_); simp only [xr, simprocAttr]; repeat (guard_target =~ _ ∧ _; refine ⟨by first | trivial | (unfold I64; omega) | omega | (simp <;> omega) | (intros; omega), ?_⟩))))
      (simp only [xe, simprocAttr]; refine ⟨[_, _], ⟨rfl, rfl, trivial⟩, rfl, Imp.eq ?_⟩)
      rfl
  · have hs := of_decide_eq_false hs
    have hbn := bal_pos hs
    (repeat (first | refine g1 ?_ | refine g2 ?_ | ((first | refine g3 ?_ | refine g4 ?_); try simp only [xq, simprocAttr]) | ((first | refine g6 ?_ | refine g7 ?_); simp only [xr, simprocAttr]; repeat (guard_target =~ _ ∧ _; refine ⟨by first | trivial | (unfold I64; omega) | omega | (simp <;> omega) | (intros; omega), ?_⟩))))
    (refine awp_frz 1 rfl ?_; simp only [xz, simprocAttr])
    rw [hbn]
    (repeat (first | refine g1 ?_ | refine g2 ?_ | ((first | refine g3 ?_ | refine g4 ?_ | refine g5 ?_); try simp only [xq, simprocAttr]) | ((first | refine g6 ?_ | refine g7 ?_); simp only [xr, simprocAttr]; repeat (guard_target =~ _ ∧ _; refine ⟨by first | trivial | (unfold I64; omega) | omega | (simp <;> omega) | (intros; omega), ?_⟩))))
    (simp only [xe, simprocAttr]; refine ⟨[_, _], ⟨rfl, rfl, trivial⟩, rfl, Imp.eq ?_⟩)
    rfl
end Go.Proofs.Ytpihfeganpdjiaa
