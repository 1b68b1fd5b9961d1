/- The table of the marks with the greatest bound, on the machine: the reference's. Conditions: a cache and a sequence that are right. -/
import Derived.Test.YtobhlnaogbadjaaFindS
import Derived.Test.YtobhlnaogbadjaaAmC
import Derived.Test.YtobhlnaogbadjaaKitG
set_option linter.all false
set_option linter.unusedSimpArgs false
set_option linter.unusedVariables false
namespace Go.Proofs.Ytobhlnaogbadjaa
open Go Go.RowKit Am

/-- a row of the table, the first t sets of it -/
def gRow (k : Int) (n : Nat) (xs : List Int) (i t : Nat) : List Int := (List.range t).map (gS k n xs (xs.length - i))
theorem gRow_len (k : Int) (n : Nat) (xs : List Int) (i t : Nat) : (gRow k n xs i t).length = t := by simp [gRow]
theorem gRow_at {k : Int} {n : Nat} {xs : List Int} {i t s : Nat} (h : s < t) : (gRow k n xs i t).getD s 0 = gS k n xs (xs.length - i) s := by
  unfold gRow
  rw [List.getD_eq_getElem?_getD, List.getElem?_map, List.getElem?_range h]
  rfl
theorem gRow_next (k : Int) (n : Nat) (xs : List Int) (i t : Nat) : gRow k n xs i (t + 1) = gRow k n xs i t ++ [gS k n xs (xs.length - i) t] := by
  unfold gRow
  rw [List.range_succ, List.map_append]
  rfl
/-- the rows behind place i are there -/
def gTab (k : Int) (n : Nat) (xs : List Int) (i : Nat) : List (List Int) := (List.range (xs.length + 1)).map fun j => if i < j then gRow k n xs j (2 ^ n) else []
def gAll (k : Int) (n : Nat) (xs : List Int) : List (List Int) := (List.range (xs.length + 1)).map fun j => gRow k n xs j (2 ^ n)
theorem gTab_len (k : Int) (n : Nat) (xs : List Int) (i : Nat) : (gTab k n xs i).length = xs.length + 1 := by simp [gTab]
theorem gAll_len (k : Int) (n : Nat) (xs : List Int) : (gAll k n xs).length = xs.length + 1 := by simp [gAll]
theorem gTab_at {k : Int} {n : Nat} {xs : List Int} {i j : Nat} (h : j ≤ xs.length) (hij : i < j) : (gTab k n xs i).getD j [] = gRow k n xs j (2 ^ n) := by
  unfold gTab
  rw [List.getD_eq_getElem?_getD, List.getElem?_map, List.getElem?_range (by omega)]
  exact if_pos hij
theorem gTab_no {k : Int} {n : Nat} {xs : List Int} {i : Nat} : (gTab k n xs i).getD i [] = [] := by
  unfold gTab
  rw [List.getD_eq_getElem?_getD, List.getElem?_map]
  rcases Nat.lt_or_ge i (xs.length + 1) with h | h
  · rw [List.getElem?_range h]
    exact if_neg (Nat.lt_irrefl _)
  · rw [List.getElem?_eq_none (by simp; omega)]
    rfl
theorem gAll_at {k : Int} {n : Nat} {xs : List Int} {j : Nat} (h : j ≤ xs.length) : (gAll k n xs).getD j [] = gRow k n xs j (2 ^ n) := by
  unfold gAll
  rw [List.getD_eq_getElem?_getD, List.getElem?_map, List.getElem?_range (by omega)]
  rfl
theorem gTab_end (k : Int) (n : Nat) (xs : List Int) : gTab k n xs xs.length = List.replicate (xs.length + 1) [] := by
  refine List.ext_getElem (by simp [gTab]) fun i h1 h2 => ?_
  simp only [gTab, List.length_map, List.length_range] at h1
  simp only [gTab, List.getElem_map, List.getElem_range, List.getElem_replicate]
  rw [if_neg (by omega)]
theorem gTab_set {k : Int} {n : Nat} {xs : List Int} {i : Nat} : (gTab k n xs (i + 1)).set (i + 1) (gRow k n xs (i + 1) (2 ^ n)) = gTab k n xs i := by
  refine List.ext_getElem (by simp [gTab]) fun j h1 h2 => ?_
  rw [List.getElem_set]
  simp only [gTab, List.getElem_map, List.getElem_range]
  by_cases e : i + 1 = j
  · rw [if_pos e, if_pos (by omega), e]
  · rw [if_neg e]
    by_cases h3 : i + 1 < j
    · rw [if_pos h3, if_pos (by omega)]
    · rw [if_neg h3, if_neg (by omega)]
theorem gTab_all {k : Int} {n : Nat} {xs : List Int} : (gTab k n xs 0).set 0 (gRow k n xs 0 (2 ^ n)) = gAll k n xs := by
  refine List.ext_getElem (by simp [gTab, gAll]) fun j h1 h2 => ?_
  rw [List.getElem_set]
  simp only [gTab, gAll, List.getElem_map, List.getElem_range]
  by_cases e : 0 = j
  · rw [if_pos e, e]
  · rw [if_neg e, if_pos (by omega)]
theorem gRow_zero (k : Int) (n : Nat) (xs : List Int) (t : Nat) : gRow k n xs xs.length t = List.replicate t 0 := by
  refine List.ext_getElem (by simp [gRow]) fun j h1 h2 => ?_
  simp only [gRow, List.getElem_map, List.getElem_range, List.getElem_replicate, Nat.sub_self]
  rfl
theorem mkT_bd {k : Int} {xs : List Int} {i m : Nat} (h0 : 0 ≤ k) (hk : k ≤ 6) (hn : xs.length ≤ 60) (t : Nat) (ht : t ≤ 8) : -14 ≤ (mkT k xs i m t).1 ∧ (mkT k xs i m t).1 ≤ 60 := by
  have h1 := gn0_bd h0 hk hn i
  have h2 := sumN_bd (f := hitX xs i m) (lo := 0) (hi := 1) (n := t) fun x _ => by unfold hitX; split <;> omega
  rw [mkT_gain]
  omega
theorem gS_bd {k : Int} {n : Nat} {xs : List Int} (h0 : 0 ≤ k) (hk : k ≤ 6) (hn : xs.length ≤ 60) (h8 : n ≤ 8) : ∀ d s, 0 ≤ gS k n xs d s ∧ gS k n xs d s ≤ 60 * d
  | 0, _ => ⟨Int.le_refl _, Int.le_refl _⟩
  | d + 1, s => by
    have h1 := gS_bd h0 hk hn h8 d (begS s (xs.getD (xs.length - (d + 1)) 0).toNat)
    have h2 := gS_bd h0 hk hn h8 d (mkT k xs (xs.length - (d + 1)) (begS s (xs.getD (xs.length - (d + 1)) 0).toNat) n).2
    have h3 := mkT_bd (i := xs.length - (d + 1)) (m := begS s (xs.getD (xs.length - (d + 1)) 0).toNat) h0 hk hn n h8
    unfold gS
    simp only
    omega
theorem gS_at {k : Int} {n : Nat} {xs : List Int} {i s : Nat} (hi : i < xs.length) : gS k n xs (xs.length - i) s = max (gS k n xs (xs.length - (i + 1)) (begS s (xs.getD i 0).toNat)) ((mkT k xs i (begS s (xs.getD i 0).toNat) n).1 + gS k n xs (xs.length - (i + 1)) (mkT k xs i (begS s (xs.getD i 0).toNat) n).2) := by
  obtain ⟨d, hd⟩ : ∃ d, xs.length - i = d + 1 := ⟨xs.length - i - 1, by omega⟩
  have e : xs.length - (d + 1) = i := by omega
  rw [hd, show xs.length - (i + 1) = d by omega]
  show max (gS k n xs d (begS s (xs.getD (xs.length - (d + 1)) 0).toNat)) _ = _
  rw [e]
set_option maxRecDepth 4000 in
set_option maxHeartbeats 4000000 in
theorem l5Gains_d (k : Int) (n : Nat) (xs : List Int) (hk0 : 0 ≤ k) (hk6 : k ≤ 6) (hn1 : 1 ≤ n) (hn8 : n ≤ 8) (hn : xs.length ≤ 60) (hx : PgOK n xs) : Does Try.prog 44 [.int k, .int n, .sl (.ints xs)] (.imm (.sl (.ii (gAll k n xs)))) := by
  have hpn := pow_le8 hn8
  have hpn2 := pow2_int n
  refine spec_imm Try.func44 rfl Try.ntmps44 cfOK (fun _ _ => by kernel_rfl) rfl (Nat.le_of_ble_eq_true rfl) ?_
  intro M0 w0
  rw [Try.results44]
  (repeat (first | refine g1 ?_ | refine g2 ?_ | ((first | refine g3 ?_ | refine g4 ?_ | refine g5 ?_); try simp only [xq, simprocAttr]) | ((first | refine g6 ?_ | refine g7 ?_); simp only [xr, simprocAttr]; repeat (guard_target =~ _ ∧ _; refine ⟨by first | (guard_target =~ (_ : Int) ≤ _; omega) | (first | trivial | (unfold I64; omega) | omega | (simp <;> omega) | (intros; omega)), ?_⟩))))
  rw [show ((xs.length : Int) + 1).toNat = xs.length + 1 by omega, Int.one_mul, hpn2, Int.toNat_natCast]
  (refine awp_cut 0 (xs.length) (.ii (List.replicate (xs.length + 1) [])) (.ints (List.replicate (2 ^ n) 0)) rfl (by first | (show _ = List.length _; simp; done) | (show _ = List.length _; omega) | first | trivial | (unfold I64; omega) | omega | (simp <;> omega) | (intros; omega)) rfl ?_; simp only [xr, simprocAttr])
  rw [← gTab_end k n xs, ← gRow_zero k n xs (2 ^ n)]
  (refine awp_frz 2 rfl ?_; simp only [xz, simprocAttr])
  refine awp_rounds (α := Nat) (fun i => [(8, true, .int ((i : Int) - 1))]) [0, 1, 2, 7] (fun i => [.cut 22 3 (.ii (gTab k n xs i)) i (.b (.sl (.ints (gRow k n xs i (2 ^ n))))), .gone, .gone]) (fun i => i ≤ xs.length) (fun i => i) xs.length (by ((try simp only [xk]); (repeat (refine leK_cons ?_ ?_; first | (focus (first | rfl | (simp only [xr, simprocAttr]; done) | (simp only [xr, simprocAttr]; refine int_eq1 ?_; first | trivial | (unfold I64; omega) | omega | (simp <;> omega) | (intros; omega)))) | rotate_left)); (refine leK_nil ?_; exact (by rfl)); (all_goals (try (simp only [xr, simprocAttr]; try refine int_eq1 ?_))))) (Nat.le_refl _) fun i hi => ?_
  have hgl := gTab_len k n xs i
  simp only [xr, simprocAttr]
  rcases i with _ | i
  · (repeat (first | refine g1 ?_ | refine g2 ?_ | ((first | refine g3 ?_ | refine g4 ?_ | refine g5 ?_); try simp only [xq, simprocAttr]) | ((first | refine g6 ?_ | refine g7 ?_); simp only [xr, simprocAttr]; repeat (guard_target =~ _ ∧ _; refine ⟨by first | trivial | (unfold I64; omega) | omega | (simp <;> omega) | (intros; omega), ?_⟩))))
    refine awp_cond (by first | rfl | (simp only [xr, simprocAttr]; rfl)) (fun hc => ?_) (fun hc => ?_)
    · cases hc
    (refine awp_cutE 0 rfl (by first | (show _ < List.length _; omega) | first | trivial | (unfold I64; omega) | omega | (simp <;> omega) | (intros; omega)) rfl ?_; simp only [xr, simprocAttr])
    rw [gTab_all]
    (repeat (first | refine g1 ?_ | refine g2 ?_ | ((first | refine g3 ?_ | refine g4 ?_); try simp only [xq, simprocAttr]) | ((first | refine g6 ?_ | refine g7 ?_); simp only [xr, simprocAttr]; repeat (guard_target =~ _ ∧ _; refine ⟨by first | trivial | (unfold I64; omega) | omega | (simp <;> omega) | (intros; omega), ?_⟩))))
    (refine awp_frz 0 rfl ?_; simp only [xz, simprocAttr])
    (repeat (first | refine g1 ?_ | refine g2 ?_ | ((first | refine g3 ?_ | refine g4 ?_ | refine g5 ?_); try simp only [xq, simprocAttr]) | ((first | refine g6 ?_ | refine g7 ?_); simp only [xr, simprocAttr]; repeat (guard_target =~ _ ∧ _; refine ⟨by first | trivial | (unfold I64; omega) | omega | (simp <;> omega) | (intros; omega), ?_⟩))))
    (simp only [xe, simprocAttr]; refine ⟨_, rfl, rfl, Imp.eq ?_⟩)
    rfl
  · rw [show (((i + 1 : Nat) : Int) - 1) = (i : Int) by omega]
    have hi' : i < xs.length := by omega
    (repeat (first | refine g1 ?_ | refine g2 ?_ | ((first | refine g3 ?_ | refine g4 ?_ | refine g5 ?_); try simp only [xq, simprocAttr]) | ((first | refine g6 ?_ | refine g7 ?_); simp only [xr, simprocAttr]; repeat (guard_target =~ _ ∧ _; refine ⟨by first | trivial | (unfold I64; omega) | omega | (simp <;> omega) | (intros; omega), ?_⟩))))
    refine awp_cond (by first | rfl | (simp only [xr, simprocAttr]; rfl)) (fun hc => ?_) (fun hc => ?_)
    · (refine awp_cutN 0 (i) rfl (by first | (show _ < List.length _; omega) | first | trivial | (unfold I64; omega) | omega | (simp <;> omega) | (intros; omega)) rfl ?_; simp only [xr, simprocAttr])
      rw [gTab_set, gTab_no]
      have hpl := hx.low i hi'
      have hph := hx.high i hi'
      obtain ⟨p, hp⟩ : ∃ p : Nat, xs.getD i 0 = (p : Int) := ⟨(xs.getD i 0).toNat, by omega⟩
      have hgl2 := gTab_len k n xs i
      (repeat (first | refine g1 ?_ | refine g2 ?_ | ((first | refine g3 ?_ | refine g4 ?_ | refine g5 ?_); try simp only [xq, simprocAttr]) | ((first | refine g6 ?_ | refine g7 ?_); simp only [xr, simprocAttr]; repeat (guard_target =~ _ ∧ _; refine ⟨by first | trivial | (unfold I64; omega) | omega | (simp <;> omega) | (intros; omega), ?_⟩))))
      refine awp_rounds (α := Nat) (fun s => [(9, true, .int s)]) [0, 1, 2, 7, 8] (fun s => [.cut 22 3 (.ii (gTab k n xs i)) i (.own 3), .gone, .gone, .row 3 (.ints (gRow k n xs i s))]) (fun s => s ≤ 2 ^ n) (fun s => 2 ^ n - s) 0 (by ((try simp only [xk]); (repeat (refine leK_cons ?_ ?_; first | (focus (first | rfl | (simp only [xr, simprocAttr]; done) | (simp only [xr, simprocAttr]; refine int_eq1 ?_; first | trivial | (unfold I64; omega) | omega | (simp <;> omega) | (intros; omega)))) | rotate_left)); (refine leK_nil ?_; exact (by rfl)); (all_goals (try (simp only [xr, simprocAttr]; try refine int_eq1 ?_))))) (Nat.zero_le _) fun s hs => ?_
      have hrl := gRow_len k n xs i s
      simp only [xr, simprocAttr]
      (repeat (first | refine g1 ?_ | refine g2 ?_ | ((first | refine g3 ?_ | refine g4 ?_ | refine g5 ?_); try simp only [xq, simprocAttr]) | ((first | refine g6 ?_ | refine g7 ?_); simp only [xr, simprocAttr]; repeat (guard_target =~ _ ∧ _; refine ⟨by first | trivial | (unfold I64; omega) | omega | (simp <;> omega) | (intros; omega), ?_⟩))))
      refine awp_cond (by first | rfl | (simp only [xr, simprocAttr]; rfl)) (fun hd => ?_) (fun hd => ?_)
      · have hd := of_decide_eq_true hd
        have hs' : s < 2 ^ n := by omega
        have hml : begS s p < 2 ^ n := begS_lt hs'
        have hwl := mkT_lt (k := k) (xs := xs) (i := i) hml (Nat.le_refl n)
        have hgb := mkT_bd (k := k) (xs := xs) (i := i) (m := begS s p) hk0 hk6 hn n hn8
        have hb1 := gS_bd hk0 hk6 hn hn8 (xs.length - (i + 1)) (mkT k xs i (begS s p) n).2
        have hT : (gTab k n xs i).getD (i + 1) [] = gRow k n xs (i + 1) (2 ^ n) := gTab_at (by omega) (by omega)
        have hR1 : (gRow k n xs (i + 1) (2 ^ n)).getD (begS s p) 0 = gS k n xs (xs.length - (i + 1)) (begS s p) := gRow_at hml
        have hR2 : (gRow k n xs (i + 1) (2 ^ n)).getD (mkT k xs i (begS s p) n).2 0 = gS k n xs (xs.length - (i + 1)) (mkT k xs i (begS s p) n).2 := gRow_at hwl
        have hRl := gRow_len k n xs (i + 1) (2 ^ n)
        have hE : ((i : Int) + 1).toNat = i + 1 := by omega
        have hB : Nat.beq (i + 1) i = false := by rw [Bool.eq_false_iff]; exact fun h => by have := Nat.eq_of_beq_eq_true h; omega
        have hat := gS_at (k := k) (n := n) (s := s) hi'
        rw [hp, Int.toNat_natCast] at hat
        (repeat (first | refine g1 ?_ | refine g2 ?_ | ((first | refine g3 ?_ | refine g4 ?_ | refine g5 ?_); try simp only [xq, simprocAttr]) | ((first | refine g6 ?_ | refine g7 ?_); simp only [xr, simprocAttr]; repeat (guard_target =~ _ ∧ _; refine ⟨by first | trivial | (unfold I64; omega) | omega | (simp <;> omega) | (intros; omega), ?_⟩))))
        rw [hp]
        ((try refine Or.inl ?_); refine ⟨_, (l5Begin_d s p (by omega) (by omega)), .inl rfl, ?_⟩; (try simp only [xr, simprocAttr]); repeat (guard_target =~ _ ∧ _; refine ⟨by first | trivial | (unfold I64; omega) | omega | (simp <;> omega) | (intros; omega), ?_⟩))
        (repeat (first | refine g1 ?_ | refine g2 ?_ | ((first | refine g3 ?_ | refine g4 ?_ | refine g5 ?_); try simp only [xq, simprocAttr]) | ((first | refine g6 ?_ | refine g7 ?_); simp only [xr, simprocAttr]; repeat (guard_target =~ _ ∧ _; refine ⟨by first | trivial | (unfold I64; omega) | omega | (simp <;> omega) | (intros; omega), ?_⟩))))
        ((try refine Or.inl ?_); refine ⟨_, (l5Mark_d k n xs i (begS s p) hk0 hk6 hn8 hn hi' hml), .inl rfl, ?_⟩; (try simp only [xr, simprocAttr]); repeat (guard_target =~ _ ∧ _; refine ⟨by first | trivial | (unfold I64; omega) | omega | (simp <;> omega) | (intros; omega), ?_⟩))
        (repeat (first | refine g1 ?_ | refine g2 ?_ | ((first | refine g3 ?_ | refine g4 ?_ | refine g5 ?_); try simp only [xq, simprocAttr]) | ((first | refine g6 ?_ | refine g7 ?_); simp only [xr, simprocAttr]; repeat (guard_target =~ _ ∧ _; refine ⟨by first | trivial | (unfold I64; omega) | omega | (simp <;> omega) | (intros; omega), ?_⟩))))
        ((repeat (first | refine g1 ?_ | refine g2 ?_ | ((first | refine g3 ?_ | refine g4 ?_); try simp only [xq, simprocAttr]))); refine awp_anyG 1 [(26, [4, 3]), (28, [0])] [4, 3] [(26, []), (28, [])] ?_; simp (maxSteps := 3000000) only [xg, hE, hB, hT, hR1, hR2, hRl, xr, simprocAttr]; repeat (guard_target =~ _ ∧ _; refine ⟨by first | (guard_target =~ _ = _; rfl) | (guard_target =~ (_ : Int) ≤ _; omega) | (first | trivial | (unfold I64; omega) | omega | (simp <;> omega) | (intros; omega)), ?_⟩))
        ((try refine Or.inl ?_); refine ⟨_, (l1Most_d (gS k n xs (xs.length - (i + 1)) (begS s p)) ((mkT k xs i (begS s p) n).1 + gS k n xs (xs.length - (i + 1)) (mkT k xs i (begS s p) n).2)), .inr (by and_intros <;> first | rfl | (simp; done)), ?_⟩; (try simp (maxSteps := 3000000) only [xg, hE, hB, hT, hR1, hR2, hRl, xr, simprocAttr]); repeat (guard_target =~ _ ∧ _; refine ⟨by first | (guard_target =~ _ = _; rfl) | (guard_target =~ (_ : Int) ≤ _; omega) | (first | trivial | (unfold I64; omega) | omega | (simp <;> omega) | (intros; omega)), ?_⟩))
        (repeat (first | refine g1 ?_ | refine g2 ?_ | ((first | refine g3 ?_ | refine g4 ?_); try simp only [xq, simprocAttr])))
        (refine awp_mv 3 4 rfl rfl (by decide) rfl rfl ?_; simp only [xm, simprocAttr])
        (repeat (first | refine g1 ?_ | refine g2 ?_ | ((first | refine g3 ?_ | refine g4 ?_ | refine g5 ?_); try simp only [xq, simprocAttr]) | ((first | refine g6 ?_ | refine g7 ?_); simp only [xr, simprocAttr]; repeat (guard_target =~ _ ∧ _; refine ⟨by first | trivial | (unfold I64; omega) | omega | (simp <;> omega) | (intros; omega), ?_⟩))))
        refine ⟨s + 1, by omega, by omega, .inr ⟨4, Nat.le_of_ble_eq_true rfl, leT_of ?_ rfl rfl rfl⟩⟩
        ((try simp only [xk]); (repeat (refine leK_cons ?_ ?_; first | (focus (first | rfl | (simp only [xr, simprocAttr]; done) | (simp only [xr, simprocAttr]; refine int_eq1 ?_; first | trivial | (unfold I64; omega) | omega | (simp <;> omega) | (intros; omega)))) | rotate_left)); (refine leK_nil ?_; exact (by rw [gRow_next, hat]; rfl)); (all_goals (try (simp only [xr, simprocAttr]; try refine int_eq1 ?_))))
      · have hd := of_decide_eq_false hd
        obtain rfl : s = 2 ^ n := by omega
        (repeat (first | refine g1 ?_ | refine g2 ?_ | ((first | refine g3 ?_ | refine g4 ?_); try simp only [xq, simprocAttr])))
        (refine awp_frz 3 rfl ?_; simp only [xz, simprocAttr])
        (repeat (first | refine g1 ?_ | refine g2 ?_ | ((first | refine g3 ?_ | refine g4 ?_ | refine g5 ?_); try simp only [xq, simprocAttr]) | ((first | refine g6 ?_ | refine g7 ?_); simp only [xr, simprocAttr]; repeat (guard_target =~ _ ∧ _; refine ⟨by first | trivial | (unfold I64; omega) | omega | (simp <;> omega) | (intros; omega), ?_⟩))))
        refine ⟨i, by omega, by omega, .inr ⟨3, Nat.le_of_ble_eq_true rfl, leT_of ?_ rfl rfl rfl⟩⟩
        ((try simp only [xk]); (repeat (refine leK_cons ?_ ?_; first | (focus (first | rfl | (simp only [xr, simprocAttr]; done) | (simp only [xr, simprocAttr]; refine int_eq1 ?_; first | trivial | (unfold I64; omega) | omega | (simp <;> omega) | (intros; omega)))) | rotate_left)); (refine leK_nil ?_; exact (by rfl)); (all_goals (try (simp only [xr, simprocAttr]; try refine int_eq1 ?_))))
    · have hc := of_decide_eq_false hc
      omega
end Go.Proofs.Ytobhlnaogbadjaa
