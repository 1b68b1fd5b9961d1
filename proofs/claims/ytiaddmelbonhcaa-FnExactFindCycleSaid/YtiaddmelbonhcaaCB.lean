/- Walks along the edges of pairs, on the machine. Conditions: edges that lead to pairs. -/
import Derived.Test.YtiaddmelbonhcaaCloneA
import Derived.Test.YtiaddmelbonhcaaPR
import Derived.Test.YtiaddmelbonhcaaCredit
set_option linter.all false
set_option linter.unusedSimpArgs false
set_option linter.unusedVariables false
namespace Go.Proofs.Ytiaddmelbonhcaa
open Go Go.RowKit Am

abbrev fourE (c : List Int) : AV := .tv (.agg [.b (.val (.int .i64 (c.getD 0 0))), .b (.val (.int .i64 (c.getD 1 0))), .b (.val (.int .i64 (c.getD 2 0))), .b (.val (.int .i64 (c.getD 3 0)))])
abbrev prX (L E : List (List Int)) (K : Nat) : AV := .lf (.ip [.sl (.k 2 L), .sl (.k 4 E), .val (.int .i64 K)] 0)
structure EdOK (E : List (List Int)) (K N : Nat) : Prop where
  len : E.length = N * K
  n : N ≤ 1000
  k : 1 ≤ K ∧ K ≤ 10
  to : ∀ c ∈ E, 0 ≤ c.getD 1 0 ∧ c.getD 1 0 < (N : Int)
theorem EdOK.at {E : List (List Int)} {K N : Nat} (h : EdOK E K N) {i r : Nat} (hi : i < N) (hr : r < K) : i * K + r < E.length ∧ i * K ≤ 10000 := by
  have h1 := Nat.mul_le_mul_right K (show i + 1 ≤ N by omega)
  rw [Nat.succ_mul] at h1
  have h2 : i * K ≤ 1000 * 10 := Nat.mul_le_mul (by have := h.n; omega) h.k.2
  rw [h.len]
  omega
def toE (E : List (List Int)) (K p r : Nat) : Nat := ((E.getD (p * K + r) []).getD 1 0).toNat
def afterE (E : List (List Int)) (K p : Nat) (rs : List Int) : Nat := rs.foldl (fun p r => toE E K p r.toNat) p
theorem toE_at {E : List (List Int)} {K N : Nat} (h : EdOK E K N) {i r : Nat} (hi : i < N) (hr : r < K) : (E.getD (i * K + r) []).getD 1 0 = (toE E K i r : Int) ∧ toE E K i r < N := by
  have h1 := h.at hi hr
  have h2 := h.to (E.getD (i * K + r) []) (by rw [getD_in h1.1]; exact List.getElem_mem h1.1)
  unfold toE
  omega
theorem after_take {E : List (List Int)} {K p k : Nat} {rs : List Int} (hk : k < rs.length) : afterE E K p (rs.take (k + 1)) = toE E K (afterE E K p (rs.take k)) (rs.getD k 0).toNat := by
  unfold afterE
  rw [List.take_succ_eq_append_getElem hk, List.foldl_append, getD_in hk]
  rfl
theorem after_lt {E : List (List Int)} {K N p : Nat} (h : EdOK E K N) (hp : p < N) {rs : List Int} (hq : reqsB K rs) : ∀ k, k ≤ rs.length → afterE E K p (rs.take k) < N
  | 0, _ => by simpa [afterE] using hp
  | k + 1, hk => by
    have hk' : k < rs.length := by omega
    obtain ⟨r, h1, h2⟩ := hq.at hk'
    rw [after_take hk', h1, Int.toNat_natCast]
    exact (toE_at h (after_lt h hp hq k (by omega)) h2).2
theorem edge_d {L E : List (List Int)} {K N : Nat} (h : EdOK E K N) {i r : Nat} (hi : i < N) (hr : r < K) : Does Try.prog 113 [prX L E K, .int i, .int r] (.imm (fourE (E.getD (i * K + r) []))) := by
  obtain ⟨hj, hm⟩ := h.at hi hr
  have hk := h.k
  have hn := h.n
  have e1 : (i : Int) * (K : Int) = ((i * K : Nat) : Int) := by simp
  have e2 : ((i * K : Nat) : Int) + (r : Int) = ((i * K + r : Nat) : Int) := by simp
  refine spec_imm Try.func113 rfl Try.ntmps113 cfOK (fun _ _ => by kernel_rfl) rfl (Nat.le_of_ble_eq_true rfl) ?_
  intro M0 w0
  rw [Try.results113]
  (repeat (first | refine g1 ?_ | refine g2 ?_ | ((first | refine g3 ?_ | refine g4 ?_ | refine g5 ?_); try simp only [xq, simprocAttr]) | ((first | refine g6 ?_ | refine g7 ?_); simp only [xr, simprocAttr]; repeat (guard_target =~ _ ∧ _; refine ⟨by first | trivial | (unfold I64; omega) | omega | (simp <;> omega) | (intros; omega), ?_⟩))))
  ((repeat (first | refine g1 ?_ | refine g2 ?_ | ((first | refine g3 ?_ | refine g4 ?_); try simp only [xq, simprocAttr]))); refine awp_anyM [0] 0 [] (by kernel_rfl) (by kernel_rfl) (by kernel_rfl) (by kernel_rfl) (by kernel_rfl) ?_; simp (maxSteps := 3000000) only [xr, simprocAttr]; repeat (guard_target =~ _ ∧ _; refine ⟨by first | trivial | (unfold I64; omega) | omega | (simp <;> omega) | (intros; omega), ?_⟩))
  rw [e1, e2, Int.toNat_natCast]
  (repeat (first | refine g1 ?_ | refine g2 ?_ | ((first | refine g3 ?_ | refine g4 ?_ | refine g5 ?_); try simp only [xq, simprocAttr]) | ((first | refine g6 ?_ | refine g7 ?_); simp only [xr, simprocAttr]; repeat (guard_target =~ _ ∧ _; refine ⟨by first | trivial | (unfold I64; omega) | omega | (simp <;> omega) | (intros; omega), ?_⟩))))
  (simp only [xec, simprocAttr]; refine ⟨_, ⟨by simp only [xr, simprocAttr] <;> (and_intros <;> first | trivial | (unfold I64; omega) | omega | (simp <;> omega) | (intros; omega)), rfl⟩, rfl, Imp.eq ?_⟩)
  rfl
theorem after_d {L E : List (List Int)} {K N : Nat} (h : EdOK E K N) {p : Nat} (hp : p < N) {rs : List Int} (hq : reqsB K rs) (hl : rs.length ≤ 1000) : Does Try.prog 63 [prX L E K, .int p, .sl (.ints rs)] (.imm (.int (afterE E K p rs))) := by
  refine spec_imm Try.func63 rfl Try.ntmps63 cfOK (fun _ _ => by kernel_rfl) rfl (Nat.le_of_ble_eq_true rfl) ?_
  intro M0 w0
  rw [Try.results63]
  (refine awp_fits 2 rfl fun hf => ?_; simp only [xp, simprocAttr] at hf; simp only [xf, simprocAttr] at hf)
  (repeat (first | refine g1 ?_ | refine g2 ?_ | ((first | refine g3 ?_ | refine g4 ?_ | refine g5 ?_); try simp only [xq, simprocAttr]) | ((first | refine g6 ?_ | refine g7 ?_); simp only [xr, simprocAttr]; repeat (guard_target =~ _ ∧ _; refine ⟨by first | trivial | (unfold I64; omega) | omega | (simp <;> omega) | (intros; omega), ?_⟩))))
  refine awp_rounds (α := Nat) (fun k => [(11, true, .int k), (1, true, .int (afterE E K p (rs.take k)))]) [0, 9, 10] (fun _ => []) (fun k => k ≤ rs.length) (fun k => rs.length - k) 0 (by ((try simp only [xk]); (repeat (refine leK_cons ?_ ?_; first | (focus (first | rfl | (simp only [xr, simprocAttr]; done) | (simp only [xr, simprocAttr]; refine int_eq1 ?_; first | trivial | (unfold I64; omega) | omega | (simp <;> omega) | (intros; omega)))) | rotate_left)); (try exact leK_nil rfl); (all_goals (try (simp only [xr, simprocAttr]; try refine int_eq1 ?_))))) (Nat.zero_le _) fun k hk => ?_
  simp only [xr, simprocAttr]
  (repeat (first | refine g1 ?_ | refine g2 ?_ | ((first | refine g3 ?_ | refine g4 ?_ | refine g5 ?_); try simp only [xq, simprocAttr]) | ((first | refine g6 ?_ | refine g7 ?_); simp only [xr, simprocAttr]; repeat (guard_target =~ _ ∧ _; refine ⟨by first | trivial | (unfold I64; omega) | omega | (simp <;> omega) | (intros; omega), ?_⟩))))
  refine awp_cond (by first | rfl | (simp only [xr, simprocAttr]; rfl)) (fun hc => ?_) (fun hc => ?_)
  · have hc := of_decide_eq_true hc
    have hk' : k < rs.length := by omega
    obtain ⟨r, h1, h2⟩ := hq.at hk'
    have h3 := after_lt h hp hq k hk
    (repeat (first | refine g1 ?_ | refine g2 ?_ | ((first | refine g3 ?_ | refine g4 ?_ | refine g5 ?_); try simp only [xq, simprocAttr]) | ((first | refine g6 ?_ | refine g7 ?_); simp only [xr, simprocAttr]; repeat (guard_target =~ _ ∧ _; refine ⟨by first | trivial | (unfold I64; omega) | omega | (simp <;> omega) | (intros; omega), ?_⟩))))
    rw [h1]
    ((try refine Or.inl ?_); refine ⟨_, (edge_d h h3 h2), .inr (by and_intros <;> first | rfl | (simp; done)), ?_⟩; (try simp only [xr, simprocAttr]); repeat (guard_target =~ _ ∧ _; refine ⟨by first | trivial | (unfold I64; omega) | omega | (simp <;> omega) | (intros; omega), ?_⟩))
    (repeat (first | refine g1 ?_ | refine g2 ?_ | ((first | refine g3 ?_ | refine g4 ?_ | refine g5 ?_); try simp only [xq, simprocAttr]) | ((first | refine g6 ?_ | refine g7 ?_); simp only [xr, simprocAttr]; repeat (guard_target =~ _ ∧ _; refine ⟨by first | trivial | (unfold I64; omega) | omega | (simp <;> omega) | (intros; omega), ?_⟩))))
    refine ⟨k + 1, by omega, by omega, .inl ?_⟩
    ((try simp only [xk]); (repeat (refine leK_cons ?_ ?_; first | (focus (first | rfl | (simp only [xr, simprocAttr]; done) | (simp only [xr, simprocAttr]; refine int_eq1 ?_; first | trivial | (unfold I64; omega) | omega | (simp <;> omega) | (intros; omega)))) | rotate_left)); (try exact leK_nil rfl); (all_goals (try (simp only [xr, simprocAttr]; try refine int_eq1 ?_))))
    rw [after_take hk', h1, Int.toNat_natCast, (toE_at h h3 h2).1]
  · have hc := of_decide_eq_false hc
    have hk' : k = rs.length := by omega
    subst hk'
    (repeat (first | refine g1 ?_ | refine g2 ?_ | ((first | refine g3 ?_ | refine g4 ?_ | refine g5 ?_); try simp only [xq, simprocAttr]) | ((first | refine g6 ?_ | refine g7 ?_); simp only [xr, simprocAttr]; repeat (guard_target =~ _ ∧ _; refine ⟨by first | trivial | (unfold I64; omega) | omega | (simp <;> omega) | (intros; omega), ?_⟩))))
    (simp only [xe, simprocAttr]; refine ⟨_, rfl, rfl, Imp.eq ?_⟩)
    rw [List.take_length]
end Go.Proofs.Ytiaddmelbonhcaa
/- The gain of a walk along the edges of pairs, on the machine. Conditions: edges that lead to pairs, and gains that are not large. -/
set_option linter.all false
set_option linter.unusedSimpArgs false
set_option linter.unusedVariables false
namespace Go.Proofs.Ytiaddmelbonhcaa
open Go Go.RowKit Am

def GnOK (a : Int × Int) (E : List (List Int)) : Prop := ∀ c ∈ E, 0 ≤ a.2 * c.getD 2 0 ∧ a.2 * c.getD 2 0 ≤ 100000000000000 ∧ 0 ≤ a.1 * c.getD 3 0 ∧ a.1 * c.getD 3 0 ≤ 100000000000000
def gainE (a : Int × Int) (E : List (List Int)) (K : Nat) : Nat → List Int → Int
  | _, [] => 0
  | p, r :: rs => gainC a.1 a.2 (E.getD (p * K + r.toNat) []) + gainE a E K (toE E K p r.toNat) rs
theorem gainE_app {a : Int × Int} {E : List (List Int)} {K : Nat} : ∀ (xs ys : List Int) (p : Nat), gainE a E K p (xs ++ ys) = gainE a E K p xs + gainE a E K (afterE E K p xs) ys
  | [], ys, p => by simp [gainE, afterE]
  | x :: xs, ys, p => by
    rw [List.cons_append, gainE, gainE, gainE_app xs ys, Int.add_assoc]
    rfl
theorem gainE_take {a : Int × Int} {E : List (List Int)} {K p k : Nat} {rs : List Int} (hk : k < rs.length) : gainE a E K p (rs.take (k + 1)) = gainE a E K p (rs.take k) + gainC a.1 a.2 (E.getD (afterE E K p (rs.take k) * K + (rs.getD k 0).toNat) []) := by
  rw [List.take_succ_eq_append_getElem hk, gainE_app, getD_in hk]
  simp [gainE]
theorem gainE_bd {a : Int × Int} {E : List (List Int)} {K N p : Nat} (h : EdOK E K N) (hg : GnOK a E) (hp : p < N) {rs : List Int} (hq : reqsB K rs) : ∀ k, k ≤ rs.length → -100000000000000 * (k : Int) ≤ gainE a E K p (rs.take k) ∧ gainE a E K p (rs.take k) ≤ 100000000000000 * (k : Int)
  | 0, _ => by simp [gainE]
  | k + 1, hk => by
    have hk' : k < rs.length := by omega
    obtain ⟨r, h1, h2⟩ := hq.at hk'
    have h3 := (h.at (after_lt h hp hq k (by omega)) h2).1
    have h4 := hg _ (show E.getD (afterE E K p (rs.take k) * K + r) [] ∈ E by rw [getD_in h3]; exact List.getElem_mem h3)
    have ih := gainE_bd h hg hp hq k (by omega)
    rw [gainE_take hk', h1, Int.toNat_natCast]
    unfold gainC
    omega
theorem cycleGain_d {L E : List (List Int)} {K N : Nat} (h : EdOK E K N) {a : Int × Int} (hg : GnOK a E) {p : Nat} (hp : p < N) {rs : List Int} (hq : reqsB K rs) (hl : rs.length ≤ 60) : Does Try.prog 64 [prX L E K, frA a, .int p, .sl (.ints rs)] (.imm (.int (gainE a E K p rs))) := by
  refine spec_imm Try.func64 rfl Try.ntmps64 cfOK (fun _ _ => by kernel_rfl) rfl (Nat.le_of_ble_eq_true rfl) ?_
  intro M0 w0
  rw [Try.results64]
  (refine awp_fits 3 rfl fun hf => ?_; simp only [xp, simprocAttr] at hf; simp only [xf, simprocAttr] at hf)
  (repeat (first | refine g1 ?_ | refine g2 ?_ | ((first | refine g3 ?_ | refine g4 ?_ | refine g5 ?_); try simp only [xq, simprocAttr]) | ((first | refine g6 ?_ | refine g7 ?_); simp only [xr, simprocAttr]; repeat (guard_target =~ _ ∧ _; refine ⟨by first | trivial | (unfold I64; omega) | omega | (simp <;> omega) | (intros; omega), ?_⟩))))
  refine awp_rounds (α := Nat) (fun k => [(15, true, .int k), (2, true, .int (afterE E K p (rs.take k))), (9, true, .int (gainE a E K p (rs.take k)))]) [0, 5, 13, 14] (fun _ => [.box [.b (.val (.int .i64 a.1)), .b (.val (.int .i64 a.2))]]) (fun k => k ≤ rs.length) (fun k => rs.length - k) 0 (by ((try simp only [xk]); (repeat (refine leK_cons ?_ ?_; first | (focus (first | rfl | (simp only [xr, simprocAttr]; done) | (simp only [xr, simprocAttr]; refine int_eq1 ?_; first | trivial | (unfold I64; omega) | omega | (simp <;> omega) | (intros; omega)))) | rotate_left)); (try exact leK_nil rfl); (all_goals (try (simp only [xr, simprocAttr]; try refine int_eq1 ?_))))) (Nat.zero_le _) fun k hk => ?_
  simp only [xr, simprocAttr]
  (repeat (first | refine g1 ?_ | refine g2 ?_ | ((first | refine g3 ?_ | refine g4 ?_ | refine g5 ?_); try simp only [xq, simprocAttr]) | ((first | refine g6 ?_ | refine g7 ?_); simp only [xr, simprocAttr]; repeat (guard_target =~ _ ∧ _; refine ⟨by first | trivial | (unfold I64; omega) | omega | (simp <;> omega) | (intros; omega), ?_⟩))))
  refine awp_cond (by first | rfl | (simp only [xr, simprocAttr]; rfl)) (fun hc => ?_) (fun hc => ?_)
  · have hc := of_decide_eq_true hc
    have hk' : k < rs.length := by omega
    obtain ⟨r, h1, h2⟩ := hq.at hk'
    have h3 := after_lt h hp hq k hk
    have h4 := (h.at h3 h2).1
    have h5 := hg _ (show E.getD (afterE E K p (rs.take k) * K + r) [] ∈ E by rw [getD_in h4]; exact List.getElem_mem h4)
    have h6 := gainE_bd h hg hp hq k hk
    have h7 : gainC a.1 a.2 (E.getD (afterE E K p (rs.take k) * K + r) []) = a.2 * (E.getD (afterE E K p (rs.take k) * K + r) []).getD 2 0 - a.1 * (E.getD (afterE E K p (rs.take k) * K + r) []).getD 3 0 := rfl
    (repeat (first | refine g1 ?_ | refine g2 ?_ | ((first | refine g3 ?_ | refine g4 ?_ | refine g5 ?_); try simp only [xq, simprocAttr]) | ((first | refine g6 ?_ | refine g7 ?_); simp only [xr, simprocAttr]; repeat (guard_target =~ _ ∧ _; refine ⟨by first | trivial | (unfold I64; omega) | omega | (simp <;> omega) | (intros; omega), ?_⟩))))
    rw [h1]
    ((try refine Or.inl ?_); refine ⟨_, (edge_d h h3 h2), .inr (by and_intros <;> first | rfl | (simp; done)), ?_⟩; (try simp only [xr, simprocAttr]); repeat (guard_target =~ _ ∧ _; refine ⟨by first | trivial | (unfold I64; omega) | omega | (simp <;> omega) | (intros; omega), ?_⟩))
    (repeat (first | refine g1 ?_ | refine g2 ?_ | ((first | refine g3 ?_ | refine g4 ?_ | refine g5 ?_); try simp only [xq, simprocAttr]) | ((first | refine g6 ?_ | refine g7 ?_); simp only [xr, simprocAttr]; repeat (guard_target =~ _ ∧ _; refine ⟨by first | trivial | (unfold I64; omega) | omega | (simp <;> omega) | (intros; omega), ?_⟩))))
    ((try refine Or.inl ?_); refine ⟨_, (gain_d (E.getD (afterE E K p (rs.take k) * K + r) []) a h5.1 (by omega) h5.2.2.1 (by omega)), .inl rfl, ?_⟩; (try simp only [xr, simprocAttr]); repeat (guard_target =~ _ ∧ _; refine ⟨by first | trivial | (unfold I64; omega) | omega | (simp <;> omega) | (intros; omega), ?_⟩))
    (repeat (first | refine g1 ?_ | refine g2 ?_ | ((first | refine g3 ?_ | refine g4 ?_ | refine g5 ?_); try simp only [xq, simprocAttr]) | ((first | refine g6 ?_ | refine g7 ?_); simp only [xr, simprocAttr]; repeat (guard_target =~ _ ∧ _; refine ⟨by first | trivial | (unfold I64; omega) | omega | (simp <;> omega) | (intros; omega), ?_⟩))))
    refine ⟨k + 1, by omega, by omega, .inr ⟨1, Nat.le_of_ble_eq_true rfl, leT_of ?_ rfl rfl rfl⟩⟩
    ((try simp only [xk]); (repeat (refine leK_cons ?_ ?_; first | (focus (first | rfl | (simp only [xr, simprocAttr]; done) | (simp only [xr, simprocAttr]; refine int_eq1 ?_; first | trivial | (unfold I64; omega) | omega | (simp <;> omega) | (intros; omega)))) | rotate_left)); (try exact leK_nil rfl); (all_goals (try (simp only [xr, simprocAttr]; try refine int_eq1 ?_))))
    · rw [after_take hk', h1, Int.toNat_natCast, (toE_at h h3 h2).1]
    · rw [gainE_take hk', h1, Int.toNat_natCast]
  · have hc := of_decide_eq_false hc
    have hk' : k = rs.length := by omega
    subst hk'
    (repeat (first | refine g1 ?_ | refine g2 ?_ | ((first | refine g3 ?_ | refine g4 ?_ | refine g5 ?_); try simp only [xq, simprocAttr]) | ((first | refine g6 ?_ | refine g7 ?_); simp only [xr, simprocAttr]; repeat (guard_target =~ _ ∧ _; refine ⟨by first | trivial | (unfold I64; omega) | omega | (simp <;> omega) | (intros; omega), ?_⟩))))
    (simp only [xe, simprocAttr]; refine ⟨_, rfl, rfl, Imp.eq ?_⟩)
    rw [List.take_length]
end Go.Proofs.Ytiaddmelbonhcaa
/- The closure of FindCycle, on the machine. Conditions: edges that lead to pairs, and gains that are not large. -/
set_option linter.all false
set_option linter.unusedSimpArgs false
set_option linter.unusedVariables false
namespace Go.Proofs.Ytiaddmelbonhcaa
open Go Go.RowKit Am

/-- a walk that leads back with a gain -/
def goodE (a : Int × Int) (E : List (List Int)) (K p : Nat) (rs : List Int) : Bool := decide ((afterE E K p rs : Int) = (p : Int)) && decide (0 < gainE a E K p rs)
abbrev bxX (L E : List (List Int)) (K : Nat) : Ob := .box [.ip [.sl (.k 2 L), .sl (.k 4 E), .val (.int .i64 K)] 0]
abbrev capF (a : Int × Int) (p : Nat) : List AV := [.lf (.own 0), .lf (.ptr 1 0), .lf (.ptr 2 0), .lf (.ip [.val (.int .i64 p)] 0), .lf (.ip [.val (.int .i64 a.1), .val (.int .i64 a.2)] 0)]
set_option maxHeartbeats 2000000 in
theorem find1_n {L E : List (List Int)} {K N : Nat} (h : EdOK E K N) {a : Int × Int} (hg : GnOK a E) {p : Nat} (hp : p < N) {rs : List Int} (hq : reqsB K rs) (hl : rs.length ≤ 60) (hb : goodE a E K p rs = false) : DoesH Try.prog 62 (capF a p) [true, true, true] [.row 3 (.ints rs), bxN, bxX L E K] (.tup []) [.row 3 (.ints rs), bxN, bxX L E K] := by
  refine spec_hB Try.func62 rfl Try.ntmps62 cfOK (fun _ _ => by kernel_rfl) rfl rfl rfl ?_
  intro M0 w0 S φ0
  rw [Try.results62]
  (refine awp_fits 0 rfl fun hf => ?_; simp only [xp, simprocAttr] at hf; simp only [xf, simprocAttr] at hf)
  (repeat (first | refine g1 ?_ | refine g2 ?_ | ((first | refine g3 ?_ | refine g4 ?_ | refine g5 ?_); try simp only [xq, simprocAttr]) | ((first | refine g6 ?_ | refine g7 ?_); simp only [xr, simprocAttr]; repeat (guard_target =~ _ ∧ _; refine ⟨by first | trivial | (unfold I64; omega) | omega | (simp <;> omega) | (intros; omega), ?_⟩))))
  ((try refine Or.inl ?_); refine ⟨_, (after_d h hp hq (by omega)), .inl rfl, ?_⟩; (try simp only [xr, simprocAttr]); repeat (guard_target =~ _ ∧ _; refine ⟨by first | trivial | (unfold I64; omega) | omega | (simp <;> omega) | (intros; omega), ?_⟩))
  (repeat (first | refine g1 ?_ | refine g2 ?_ | ((first | refine g3 ?_ | refine g4 ?_ | refine g5 ?_); try simp only [xq, simprocAttr]) | ((first | refine g6 ?_ | refine g7 ?_); simp only [xr, simprocAttr]; repeat (guard_target =~ _ ∧ _; refine ⟨by first | trivial | (unfold I64; omega) | omega | (simp <;> omega) | (intros; omega), ?_⟩))))
  ((try refine Or.inl ?_); refine ⟨_, (fun _ => cycleGain_d h hg hp hq hl), .inl rfl, ?_⟩; (try simp only [xr, simprocAttr]); repeat (guard_target =~ _ ∧ _; refine ⟨by first | trivial | (unfold I64; omega) | omega | (simp <;> omega) | (intros; omega), ?_⟩))
  (repeat (first | refine g1 ?_ | refine g2 ?_ | ((first | refine g3 ?_ | refine g4 ?_ | refine g5 ?_); try simp only [xq, simprocAttr]) | ((first | refine g6 ?_ | refine g7 ?_); simp only [xr, simprocAttr]; repeat (guard_target =~ _ ∧ _; refine ⟨by first | trivial | (unfold I64; omega) | omega | (simp <;> omega) | (intros; omega), ?_⟩))))
  refine awp_cond (by first | rfl | (simp only [xr, simprocAttr]; rfl)) (fun hc => ?_) (fun hc => ?_)
  · exfalso
    revert hb hc
    unfold goodE
    cases decide ((afterE E K p rs : Int) = (p : Int)) <;> cases decide (0 < gainE a E K p rs) <;> simp
  · (repeat (first | refine g1 ?_ | refine g2 ?_ | ((first | refine g3 ?_ | refine g4 ?_ | refine g5 ?_); try simp only [xq, simprocAttr]) | ((first | refine g6 ?_ | refine g7 ?_); simp only [xr, simprocAttr]; repeat (guard_target =~ _ ∧ _; refine ⟨by first | trivial | (unfold I64; omega) | omega | (simp <;> omega) | (intros; omega), ?_⟩))))
    (simp only [ends_normal, ends_ret]; exact retH_0 [0, 1, 2] rfl ⟨rfl, rfl, rfl, trivial⟩ rfl rfl rfl)
set_option maxHeartbeats 2000000 in
theorem find1_y {L E : List (List Int)} {K N : Nat} (h : EdOK E K N) {a : Int × Int} (hg : GnOK a E) {p : Nat} (hp : p < N) {rs : List Int} (hq : reqsB K rs) (hl : rs.length ≤ 60) (h0 : 0 < rs.length) (hb : goodE a E K p rs = true) {w : List Int} (hw : w = rs) : DoesH Try.prog 62 (capF a p) [true, true, true] [.row 3 (.ints rs), bxN, bxX L E K] (.tup []) [.row 3 (.ints rs), .box [.own 3], bxX L E K, .row 3 (.ints w)] := by
  subst hw
  refine spec_hB Try.func62 rfl Try.ntmps62 cfOK (fun _ _ => by kernel_rfl) rfl rfl rfl ?_
  intro M0 w0 S φ0
  rw [Try.results62]
  (refine awp_fits 0 rfl fun hf => ?_; simp only [xp, simprocAttr] at hf; simp only [xf, simprocAttr] at hf)
  (repeat (first | refine g1 ?_ | refine g2 ?_ | ((first | refine g3 ?_ | refine g4 ?_ | refine g5 ?_); try simp only [xq, simprocAttr]) | ((first | refine g6 ?_ | refine g7 ?_); simp only [xr, simprocAttr]; repeat (guard_target =~ _ ∧ _; refine ⟨by first | trivial | (unfold I64; omega) | omega | (simp <;> omega) | (intros; omega), ?_⟩))))
  ((try refine Or.inl ?_); refine ⟨_, (after_d h hp hq (by omega)), .inl rfl, ?_⟩; (try simp only [xr, simprocAttr]); repeat (guard_target =~ _ ∧ _; refine ⟨by first | trivial | (unfold I64; omega) | omega | (simp <;> omega) | (intros; omega), ?_⟩))
  (repeat (first | refine g1 ?_ | refine g2 ?_ | ((first | refine g3 ?_ | refine g4 ?_ | refine g5 ?_); try simp only [xq, simprocAttr]) | ((first | refine g6 ?_ | refine g7 ?_); simp only [xr, simprocAttr]; repeat (guard_target =~ _ ∧ _; refine ⟨by first | trivial | (unfold I64; omega) | omega | (simp <;> omega) | (intros; omega), ?_⟩))))
  ((try refine Or.inl ?_); refine ⟨_, (fun _ => cycleGain_d h hg hp hq hl), .inl rfl, ?_⟩; (try simp only [xr, simprocAttr]); repeat (guard_target =~ _ ∧ _; refine ⟨by first | trivial | (unfold I64; omega) | omega | (simp <;> omega) | (intros; omega), ?_⟩))
  (repeat (first | refine g1 ?_ | refine g2 ?_ | ((first | refine g3 ?_ | refine g4 ?_ | refine g5 ?_); try simp only [xq, simprocAttr]) | ((first | refine g6 ?_ | refine g7 ?_); simp only [xr, simprocAttr]; repeat (guard_target =~ _ ∧ _; refine ⟨by first | trivial | (unfold I64; omega) | omega | (simp <;> omega) | (intros; omega), ?_⟩))))
  refine awp_cond (by first | rfl | (simp only [xr, simprocAttr]; rfl)) (fun hc => ?_) (fun hc => ?_)
  · (repeat (first | refine g1 ?_ | refine g2 ?_ | ((first | refine g3 ?_ | refine g4 ?_ | refine g5 ?_); try simp only [xq, simprocAttr]) | ((first | refine g6 ?_ | refine g7 ?_); simp only [xr, simprocAttr]; repeat (guard_target =~ _ ∧ _; refine ⟨by first | trivial | (unfold I64; omega) | omega | (simp <;> omega) | (intros; omega), ?_⟩))))
    (refine .inr (callW_b (clone_h w (by omega) h0) rfl rfl rfl rfl rfl rfl rfl ?_); (try simp only [xr, simprocAttr]); repeat (guard_target =~ _ ∧ _; refine ⟨by first | trivial | (unfold I64; omega) | omega | (simp <;> omega) | (intros; omega), ?_⟩))
    (repeat (first | refine g1 ?_ | refine g2 ?_ | ((first | refine g3 ?_ | refine g4 ?_ | refine g5 ?_); try simp only [xq, simprocAttr]) | ((first | refine g6 ?_ | refine g7 ?_); simp only [xr, simprocAttr]; repeat (guard_target =~ _ ∧ _; refine ⟨by first | trivial | (unfold I64; omega) | omega | (simp <;> omega) | (intros; omega), ?_⟩))))
    (simp only [ends_normal, ends_ret]; exact retH_0 [0, 1, 2, 3] rfl ⟨rfl, rfl, rfl, rfl, trivial⟩ rfl rfl rfl)
  · exfalso
    revert hb hc
    unfold goodE
    cases decide ((afterE E K p w : Int) = (p : Int)) <;> cases decide (0 < gainE a E K p w) <;> simp
set_option maxHeartbeats 2000000 in
theorem find1_f {L E : List (List Int)} {K N : Nat} (h : EdOK E K N) {a : Int × Int} (hg : GnOK a E) {p : Nat} (hp : p < N) {rs w : List Int} (hq : reqsB K rs) (hl : rs.length ≤ 60) (h0 : 0 < w.length) (hw : w.length ≤ 60) : DoesH Try.prog 62 (capF a p) [true, true, true, true] [.row 3 (.ints rs), .box [.own 3], bxX L E K, .row 3 (.ints w)] (.tup []) [.row 3 (.ints rs), .box [.own 3], bxX L E K, .row 3 (.ints w)] := by
  refine spec_hB Try.func62 rfl Try.ntmps62 cfOK (fun _ _ => by kernel_rfl) rfl rfl rfl ?_
  intro M0 w0 S φ0
  rw [Try.results62]
  (refine awp_fits 0 rfl fun hf => ?_; simp only [xp, simprocAttr] at hf; simp only [xf, simprocAttr] at hf)
  (repeat (first | refine g1 ?_ | refine g2 ?_ | ((first | refine g3 ?_ | refine g4 ?_ | refine g5 ?_); try simp only [xq, simprocAttr]) | ((first | refine g6 ?_ | refine g7 ?_); simp only [xr, simprocAttr]; repeat (guard_target =~ _ ∧ _; refine ⟨by first | trivial | (unfold I64; omega) | omega | (simp <;> omega) | (intros; omega), ?_⟩))))
  refine ⟨AV.int 0, .inl rfl, ?_⟩
  simp only [xr, simprocAttr]
  (repeat (first | refine g1 ?_ | refine g2 ?_ | ((first | refine g3 ?_ | refine g4 ?_ | refine g5 ?_); try simp only [xq, simprocAttr]) | ((first | refine g6 ?_ | refine g7 ?_); simp only [xr, simprocAttr]; repeat (guard_target =~ _ ∧ _; refine ⟨by first | trivial | (unfold I64; omega) | omega | (simp <;> omega) | (intros; omega), ?_⟩))))
  refine ⟨AV.int 0, .inl rfl, ?_⟩
  simp only [xr, simprocAttr]
  (repeat (first | refine g1 ?_ | refine g2 ?_ | ((first | refine g3 ?_ | refine g4 ?_ | refine g5 ?_); try simp only [xq, simprocAttr]) | ((first | refine g6 ?_ | refine g7 ?_); simp only [xr, simprocAttr]; repeat (guard_target =~ _ ∧ _; refine ⟨by first | trivial | (unfold I64; omega) | omega | (simp <;> omega) | (intros; omega), ?_⟩))))
  refine awp_cond (by first | rfl | (simp only [xr, simprocAttr]; rfl)) (fun hc => ?_) (fun hc => ?_)
  · cases hc
  (repeat (first | refine g1 ?_ | refine g2 ?_ | ((first | refine g3 ?_ | refine g4 ?_ | refine g5 ?_); try simp only [xq, simprocAttr]) | ((first | refine g6 ?_ | refine g7 ?_); simp only [xr, simprocAttr]; repeat (guard_target =~ _ ∧ _; refine ⟨by first | trivial | (unfold I64; omega) | omega | (simp <;> omega) | (intros; omega), ?_⟩))))
  (simp only [ends_normal, ends_ret]; exact retH_0 [0, 1, 2, 3] rfl ⟨rfl, rfl, rfl, rfl, trivial⟩ rfl rfl rfl)
end Go.Proofs.Ytiaddmelbonhcaa
/- All sequences with the closure of FindCycle, on the machine. Conditions: edges that lead to pairs, and gains that are not large. -/
set_option linter.all false
set_option linter.unusedSimpArgs false
set_option linter.unusedVariables false
namespace Go.Proofs.Ytiaddmelbonhcaa
open Go Go.RowKit Am

/-- the first of the first k sequences that is good -/
def preS (b n : Nat) (p : List Int → Bool) (k : Nat) : Option (List Int) := ((List.range k).find? fun k => p (sq b n k)).map (sq b n)
theorem preS_some {b n : Nat} {p : List Int → Bool} {k : Nat} {w : List Int} (h : preS b n p k = some w) : preS b n p (k + 1) = some w := by
  unfold preS at h ⊢
  rw [List.range_succ, List.find?_append]
  cases e : (List.range k).find? fun k => p (sq b n k) with
  | none => rw [e] at h; simp at h
  | some x => rw [e] at h; simpa using h
theorem preS_new {b n : Nat} {p : List Int → Bool} {k : Nat} (h : preS b n p k = none) : preS b n p (k + 1) = bif p (sq b n k) then some (sq b n k) else none := by
  unfold preS at h ⊢
  rw [List.range_succ, List.find?_append]
  cases e : (List.range k).find? fun k => p (sq b n k) with
  | none => cases e2 : p (sq b n k) <;> simp [e2]
  | some x => rw [e] at h; simp at h
theorem preS_len {b n : Nat} {p : List Int → Bool} {k : Nat} {w : List Int} (h : preS b n p k = some w) : w.length = n := by
  unfold preS at h
  cases e : (List.range k).find? fun k => p (sq b n k) with
  | none => rw [e] at h; simp at h
  | some x =>
    rw [e] at h
    have h : sq b n x = w := by simpa using h
    rw [← h, sq_len]
abbrev stF (L E : List (List Int)) (K : Nat) : Option (List Int) → List Ob
  | none => [bxN, bxX L E K]
  | some w => [.box [.own 2], bxX L E K, .row 3 (.ints w)]
abbrev stQ (L E : List (List Int)) (K : Nat) (r : List Int) : Option (List Int) → List Ob
  | none => [bxN, bxX L E K, .row 3 (.ints r)]
  | some w => [.box [.own 3], bxX L E K, .row 3 (.ints r), .row 3 (.ints w)]
set_option maxHeartbeats 4000000 in
theorem sequencesF_h {L E : List (List Int)} {K N : Nat} (h : EdOK E K N) {a : Int × Int} (hg : GnOK a E) {p : Nat} (hp : p < N) {n : Nat} (hn : 1 ≤ n ∧ n ≤ 6) : DoesH Try.prog 61 [.int K, .int n, .clo 62 [.ptr 0 0, .ptr 1 0, .ip [.val (.int .i64 p)] 0, .ip [.val (.int .i64 a.1), .val (.int .i64 a.2)] 0]] [true, true] [bxN, bxX L E K] (.tup []) (stF L E K (firstS K n (goodE a E K p))) := by
  have hK1 := h.k.1
  have hK2 := h.k.2
  have hpos : 0 < K ^ n := Nat.pow_pos (by omega)
  refine spec_hB Try.func61 rfl Try.ntmps61 cfOK (fun _ _ => by kernel_rfl) rfl rfl rfl ?_
  intro M0 w0 S φ0
  rw [Try.results61]
  (repeat (first | refine g1 ?_ | refine g2 ?_ | ((first | refine g3 ?_ | refine g4 ?_ | refine g5 ?_); try simp only [xq, simprocAttr]) | ((first | refine g6 ?_ | refine g7 ?_); simp only [xr, simprocAttr]; repeat (guard_target =~ _ ∧ _; refine ⟨by first | trivial | (unfold I64; omega) | omega | (simp <;> omega) | (intros; omega), ?_⟩))))
  rw [← sq_0 K n]
  refine awp_rounds (α := Nat × Option (List Int)) (fun _ => []) [0, 1, 2, 6] (fun s => stQ L E K (sq K n s.1) s.2) (fun s => s.1 < K ^ n ∧ s.2 = preS K n (goodE a E K p) s.1) (fun s => K ^ n - s.1) (0, none) (by ((try simp only [xk]); (repeat (refine leK_cons ?_ ?_; first | (focus (first | rfl | (simp only [xr, simprocAttr]; done) | (simp only [xr, simprocAttr]; refine int_eq1 ?_; first | trivial | (unfold I64; omega) | omega | (simp <;> omega) | (intros; omega)))) | rotate_left)); (refine leK_nil ?_; exact (by rfl)); (all_goals (try (simp only [xr, simprocAttr]; try refine int_eq1 ?_))))) ⟨hpos, rfl⟩ fun s hs => ?_
  obtain ⟨k, o⟩ := s
  obtain ⟨hk, ho⟩ := hs
  simp only at hk ho
  have hl := sq_len K n k
  have hq := sq_reqs (n := n) (k := k) hK1
  cases o with
  | none =>
    dsimp only [stQ]
    have hpre := preS_new ho.symm
    cases hb : goodE a E K p (sq K n k)
    · rw [hb] at hpre
      have hpre : preS K n (goodE a E K p) (k + 1) = none := hpre
      simp only [xr, simprocAttr]
      (repeat (first | refine g1 ?_ | refine g2 ?_ | ((first | refine g3 ?_ | refine g4 ?_ | refine g5 ?_); try simp only [xq, simprocAttr]) | ((first | refine g6 ?_ | refine g7 ?_); simp only [xr, simprocAttr]; repeat (guard_target =~ _ ∧ _; refine ⟨by first | trivial | (unfold I64; omega) | omega | (simp <;> omega) | (intros; omega), ?_⟩))))
      (refine .inr (callW_a [2, 0, 1] (find1_n h hg hp hq (by omega) hb) rfl rfl rfl rfl ⟨rfl, rfl, rfl, trivial⟩ rfl rfl rfl rfl ?_); (try simp only [xr, simprocAttr]); repeat (guard_target =~ _ ∧ _; refine ⟨by first | trivial | (unfold I64; omega) | omega | (simp <;> omega) | (intros; omega), ?_⟩))
      (repeat (first | refine g1 ?_ | refine g2 ?_ | ((first | refine g3 ?_ | refine g4 ?_ | refine g5 ?_); try simp only [xq, simprocAttr]) | ((first | refine g6 ?_ | refine g7 ?_); simp only [xr, simprocAttr]; repeat (guard_target =~ _ ∧ _; refine ⟨by first | trivial | (unfold I64; omega) | omega | (simp <;> omega) | (intros; omega), ?_⟩))))
      rw [← sqT_0 K n k]
      refine awp_rounds (α := Nat) (fun t => [(7, true, .int ((n : Int) - 1 - (t : Int)))]) [0, 1, 2, 6] (fun t => [bxN, bxX L E K, .row 3 (.ints (sqT K n k t))]) (fun t => t ≤ n ∧ nines K k t) (fun t => n - t) 0 (by ((try simp only [xk]); (repeat (refine leK_cons ?_ ?_; first | (focus (first | rfl | (simp only [xr, simprocAttr]; done) | (simp only [xr, simprocAttr]; refine int_eq1 ?_; first | trivial | (unfold I64; omega) | omega | (simp <;> omega) | (intros; omega)))) | rotate_left)); (refine leK_nil ?_; exact (by rw [sqT_0])); (all_goals (try (simp only [xr, simprocAttr]; try refine int_eq1 ?_))))) ⟨Nat.zero_le _, nines_0 _ _⟩ fun t ht => ?_
      obtain ⟨ht, h9⟩ := ht
      have hq1 := sqT_len K n k t
      by_cases htn : t < n
      · have e : (n : Int) - 1 - (t : Int) = ((n - 1 - t : Nat) : Int) := by omega
        have hat := sqT_at (b := K) (k := k) htn
        have hdl := digS_le hK1 k t
        rw [e]
        simp only [xr, simprocAttr]
        (repeat (first | refine g1 ?_ | refine g2 ?_ | ((first | refine g3 ?_ | refine g4 ?_ | refine g5 ?_); try simp only [xq, simprocAttr]) | ((first | refine g6 ?_ | refine g7 ?_); simp only [xr, simprocAttr]; repeat (guard_target =~ _ ∧ _; refine ⟨by first | trivial | (unfold I64; omega) | omega | (simp <;> omega) | (intros; omega), ?_⟩))))
        rw [hat]
        refine awp_cond (by first | rfl | (simp only [xr, simprocAttr]; rfl)) (fun hc => ?_) (fun hc => ?_)
        · have hd : digS K k t + 1 = K := by simp at hc; omega
          (repeat (first | refine g1 ?_ | refine g2 ?_ | ((first | refine g3 ?_ | refine g4 ?_ | refine g5 ?_); try simp only [xq, simprocAttr]) | ((first | refine g6 ?_ | refine g7 ?_); simp only [xr, simprocAttr]; repeat (guard_target =~ _ ∧ _; refine ⟨by first | trivial | (unfold I64; omega) | omega | (simp <;> omega) | (intros; omega), ?_⟩))))
          rw [sqT_next htn]
          rw [show ((n - 1 - t : Nat) : Int) - 1 = (n : Int) - 1 - ((t + 1 : Nat) : Int) by omega]
          refine ⟨t + 1, by omega, nines_next hK1 h9 hd, by omega, .inl ?_⟩
          ((try simp only [xk]); (repeat (refine leK_cons ?_ ?_; first | (focus (first | rfl | (simp only [xr, simprocAttr]; done) | (simp only [xr, simprocAttr]; refine int_eq1 ?_; first | trivial | (unfold I64; omega) | omega | (simp <;> omega) | (intros; omega)))) | rotate_left)); (try exact leK_nil rfl); (all_goals (try (simp only [xr, simprocAttr]; try refine int_eq1 ?_))))
        · have hd : digS K k t + 1 ≠ K := by simp at hc; omega
          (repeat (first | refine g1 ?_ | refine g2 ?_ | ((first | refine g3 ?_ | refine g4 ?_ | refine g5 ?_); try simp only [xq, simprocAttr]) | ((first | refine g6 ?_ | refine g7 ?_); simp only [xr, simprocAttr]; repeat (guard_target =~ _ ∧ _; refine ⟨by first | trivial | (unfold I64; omega) | omega | (simp <;> omega) | (intros; omega), ?_⟩))))
          refine awp_cond (by first | rfl | (simp only [xr, simprocAttr]; rfl)) (fun hz => ?_) (fun hz => ?_)
          · exfalso
            simp at hz
            omega
          (repeat (first | refine g1 ?_ | refine g2 ?_ | ((first | refine g3 ?_ | refine g4 ?_ | refine g5 ?_); try simp only [xq, simprocAttr]) | ((first | refine g6 ?_ | refine g7 ?_); simp only [xr, simprocAttr]; repeat (guard_target =~ _ ∧ _; refine ⟨by first | trivial | (unfold I64; omega) | omega | (simp <;> omega) | (intros; omega), ?_⟩))))
          rw [hat, sqT_inc hK1 htn h9 hd]
          refine ⟨(k + 1, none), nines_lt hK1 hk htn h9 hd, hpre.symm, by (show K ^ n - (k + 1) < K ^ n - k); omega, .inl ?_⟩
          dsimp only [stQ]
          ((try simp only [xk]); (repeat (refine leK_cons ?_ ?_; first | (focus (first | rfl | (simp only [xr, simprocAttr]; done) | (simp only [xr, simprocAttr]; refine int_eq1 ?_; first | trivial | (unfold I64; omega) | omega | (simp <;> omega) | (intros; omega)))) | rotate_left)); (try exact leK_nil rfl); (all_goals (try (simp only [xr, simprocAttr]; try refine int_eq1 ?_))))
      · obtain rfl : t = n := by omega
        have e : (t : Int) - 1 - (t : Int) = -1 := by omega
        have hfin : firstS K t (goodE a E K p) = none := by
          show preS K t (goodE a E K p) (K ^ t) = _
          rw [← nines_all hK1 hk h9]
          exact hpre
        rw [e, hfin]
        dsimp only [stF]
        simp only [xr, simprocAttr]
        (repeat (first | refine g1 ?_ | refine g2 ?_ | ((first | refine g3 ?_ | refine g4 ?_ | refine g5 ?_); try simp only [xq, simprocAttr]) | ((first | refine g6 ?_ | refine g7 ?_); simp only [xr, simprocAttr]; repeat (guard_target =~ _ ∧ _; refine ⟨by first | trivial | (unfold I64; omega) | omega | (simp <;> omega) | (intros; omega), ?_⟩))))
        refine awp_cond (by first | rfl | (simp only [xr, simprocAttr]; rfl)) (fun hc => ?_) (fun hc => ?_)
        · simp at hc
        (repeat (first | refine g1 ?_ | refine g2 ?_ | ((first | refine g3 ?_ | refine g4 ?_ | refine g5 ?_); try simp only [xq, simprocAttr]) | ((first | refine g6 ?_ | refine g7 ?_); simp only [xr, simprocAttr]; repeat (guard_target =~ _ ∧ _; refine ⟨by first | trivial | (unfold I64; omega) | omega | (simp <;> omega) | (intros; omega), ?_⟩))))
        refine awp_cond (by first | rfl | (simp only [xr, simprocAttr]; rfl)) (fun hd => ?_) (fun hd => ?_)
        · (repeat (first | refine g1 ?_ | refine g2 ?_ | ((first | refine g3 ?_ | refine g4 ?_ | refine g5 ?_); try simp only [xq, simprocAttr]) | ((first | refine g6 ?_ | refine g7 ?_); simp only [xr, simprocAttr]; repeat (guard_target =~ _ ∧ _; refine ⟨by first | trivial | (unfold I64; omega) | omega | (simp <;> omega) | (intros; omega), ?_⟩))))
          (simp only [ends_normal, ends_ret]; exact retH_0 [0, 1] rfl ⟨rfl, rfl, trivial⟩ rfl rfl rfl)
        · simp at hd
    · rw [hb] at hpre
      obtain ⟨w, hw⟩ : ∃ w, w = sq K n k := ⟨_, rfl⟩
      have hpre : preS K n (goodE a E K p) (k + 1) = some w := by rw [hw]; exact hpre
      have hwl : w.length = n := by rw [hw, hl]
      simp only [xr, simprocAttr]
      (repeat (first | refine g1 ?_ | refine g2 ?_ | ((first | refine g3 ?_ | refine g4 ?_ | refine g5 ?_); try simp only [xq, simprocAttr]) | ((first | refine g6 ?_ | refine g7 ?_); simp only [xr, simprocAttr]; repeat (guard_target =~ _ ∧ _; refine ⟨by first | trivial | (unfold I64; omega) | omega | (simp <;> omega) | (intros; omega), ?_⟩))))
      (refine .inr (callW_a [2, 0, 1] (find1_y h hg hp hq (by omega) (by omega) hb hw) rfl rfl rfl rfl ⟨rfl, rfl, rfl, trivial⟩ rfl rfl rfl rfl ?_); (try simp only [xr, simprocAttr]); repeat (guard_target =~ _ ∧ _; refine ⟨by first | trivial | (unfold I64; omega) | omega | (simp <;> omega) | (intros; omega), ?_⟩))
      (repeat (first | refine g1 ?_ | refine g2 ?_ | ((first | refine g3 ?_ | refine g4 ?_ | refine g5 ?_); try simp only [xq, simprocAttr]) | ((first | refine g6 ?_ | refine g7 ?_); simp only [xr, simprocAttr]; repeat (guard_target =~ _ ∧ _; refine ⟨by first | trivial | (unfold I64; omega) | omega | (simp <;> omega) | (intros; omega), ?_⟩))))
      rw [← sqT_0 K n k]
      refine awp_rounds (α := Nat) (fun t => [(7, true, .int ((n : Int) - 1 - (t : Int)))]) [0, 1, 2, 6] (fun t => [.box [.own 3], bxX L E K, .row 3 (.ints (sqT K n k t)), .row 3 (.ints w)]) (fun t => t ≤ n ∧ nines K k t) (fun t => n - t) 0 (by ((try simp only [xk]); (repeat (refine leK_cons ?_ ?_; first | (focus (first | rfl | (simp only [xr, simprocAttr]; done) | (simp only [xr, simprocAttr]; refine int_eq1 ?_; first | trivial | (unfold I64; omega) | omega | (simp <;> omega) | (intros; omega)))) | rotate_left)); (refine leK_nil ?_; exact (by rw [sqT_0])); (all_goals (try (simp only [xr, simprocAttr]; try refine int_eq1 ?_))))) ⟨Nat.zero_le _, nines_0 _ _⟩ fun t ht => ?_
      obtain ⟨ht, h9⟩ := ht
      have hq1 := sqT_len K n k t
      by_cases htn : t < n
      · have e : (n : Int) - 1 - (t : Int) = ((n - 1 - t : Nat) : Int) := by omega
        have hat := sqT_at (b := K) (k := k) htn
        have hdl := digS_le hK1 k t
        rw [e]
        simp only [xr, simprocAttr]
        (repeat (first | refine g1 ?_ | refine g2 ?_ | ((first | refine g3 ?_ | refine g4 ?_ | refine g5 ?_); try simp only [xq, simprocAttr]) | ((first | refine g6 ?_ | refine g7 ?_); simp only [xr, simprocAttr]; repeat (guard_target =~ _ ∧ _; refine ⟨by first | trivial | (unfold I64; omega) | omega | (simp <;> omega) | (intros; omega), ?_⟩))))
        rw [hat]
        refine awp_cond (by first | rfl | (simp only [xr, simprocAttr]; rfl)) (fun hc => ?_) (fun hc => ?_)
        · have hd : digS K k t + 1 = K := by simp at hc; omega
          (repeat (first | refine g1 ?_ | refine g2 ?_ | ((first | refine g3 ?_ | refine g4 ?_ | refine g5 ?_); try simp only [xq, simprocAttr]) | ((first | refine g6 ?_ | refine g7 ?_); simp only [xr, simprocAttr]; repeat (guard_target =~ _ ∧ _; refine ⟨by first | trivial | (unfold I64; omega) | omega | (simp <;> omega) | (intros; omega), ?_⟩))))
          rw [sqT_next htn]
          rw [show ((n - 1 - t : Nat) : Int) - 1 = (n : Int) - 1 - ((t + 1 : Nat) : Int) by omega]
          refine ⟨t + 1, by omega, nines_next hK1 h9 hd, by omega, .inl ?_⟩
          ((try simp only [xk]); (repeat (refine leK_cons ?_ ?_; first | (focus (first | rfl | (simp only [xr, simprocAttr]; done) | (simp only [xr, simprocAttr]; refine int_eq1 ?_; first | trivial | (unfold I64; omega) | omega | (simp <;> omega) | (intros; omega)))) | rotate_left)); (try exact leK_nil rfl); (all_goals (try (simp only [xr, simprocAttr]; try refine int_eq1 ?_))))
        · have hd : digS K k t + 1 ≠ K := by simp at hc; omega
          (repeat (first | refine g1 ?_ | refine g2 ?_ | ((first | refine g3 ?_ | refine g4 ?_ | refine g5 ?_); try simp only [xq, simprocAttr]) | ((first | refine g6 ?_ | refine g7 ?_); simp only [xr, simprocAttr]; repeat (guard_target =~ _ ∧ _; refine ⟨by first | trivial | (unfold I64; omega) | omega | (simp <;> omega) | (intros; omega), ?_⟩))))
          refine awp_cond (by first | rfl | (simp only [xr, simprocAttr]; rfl)) (fun hz => ?_) (fun hz => ?_)
          · exfalso
            simp at hz
            omega
          (repeat (first | refine g1 ?_ | refine g2 ?_ | ((first | refine g3 ?_ | refine g4 ?_ | refine g5 ?_); try simp only [xq, simprocAttr]) | ((first | refine g6 ?_ | refine g7 ?_); simp only [xr, simprocAttr]; repeat (guard_target =~ _ ∧ _; refine ⟨by first | trivial | (unfold I64; omega) | omega | (simp <;> omega) | (intros; omega), ?_⟩))))
          rw [hat, sqT_inc hK1 htn h9 hd]
          refine ⟨(k + 1, (some w)), nines_lt hK1 hk htn h9 hd, hpre.symm, by (show K ^ n - (k + 1) < K ^ n - k); omega, .inl ?_⟩
          dsimp only [stQ]
          ((try simp only [xk]); (repeat (refine leK_cons ?_ ?_; first | (focus (first | rfl | (simp only [xr, simprocAttr]; done) | (simp only [xr, simprocAttr]; refine int_eq1 ?_; first | trivial | (unfold I64; omega) | omega | (simp <;> omega) | (intros; omega)))) | rotate_left)); (try exact leK_nil rfl); (all_goals (try (simp only [xr, simprocAttr]; try refine int_eq1 ?_))))
      · obtain rfl : t = n := by omega
        have e : (t : Int) - 1 - (t : Int) = -1 := by omega
        have hfin : firstS K t (goodE a E K p) = (some w) := by
          show preS K t (goodE a E K p) (K ^ t) = _
          rw [← nines_all hK1 hk h9]
          exact hpre
        rw [e, hfin]
        dsimp only [stF]
        simp only [xr, simprocAttr]
        (repeat (first | refine g1 ?_ | refine g2 ?_ | ((first | refine g3 ?_ | refine g4 ?_ | refine g5 ?_); try simp only [xq, simprocAttr]) | ((first | refine g6 ?_ | refine g7 ?_); simp only [xr, simprocAttr]; repeat (guard_target =~ _ ∧ _; refine ⟨by first | trivial | (unfold I64; omega) | omega | (simp <;> omega) | (intros; omega), ?_⟩))))
        refine awp_cond (by first | rfl | (simp only [xr, simprocAttr]; rfl)) (fun hc => ?_) (fun hc => ?_)
        · simp at hc
        (repeat (first | refine g1 ?_ | refine g2 ?_ | ((first | refine g3 ?_ | refine g4 ?_ | refine g5 ?_); try simp only [xq, simprocAttr]) | ((first | refine g6 ?_ | refine g7 ?_); simp only [xr, simprocAttr]; repeat (guard_target =~ _ ∧ _; refine ⟨by first | trivial | (unfold I64; omega) | omega | (simp <;> omega) | (intros; omega), ?_⟩))))
        refine awp_cond (by first | rfl | (simp only [xr, simprocAttr]; rfl)) (fun hd => ?_) (fun hd => ?_)
        · (repeat (first | refine g1 ?_ | refine g2 ?_ | ((first | refine g3 ?_ | refine g4 ?_ | refine g5 ?_); try simp only [xq, simprocAttr]) | ((first | refine g6 ?_ | refine g7 ?_); simp only [xr, simprocAttr]; repeat (guard_target =~ _ ∧ _; refine ⟨by first | trivial | (unfold I64; omega) | omega | (simp <;> omega) | (intros; omega), ?_⟩))))
          (simp only [ends_normal, ends_ret]; exact retH_0 [0, 1, 3] rfl ⟨rfl, rfl, rfl, trivial⟩ rfl rfl rfl)
        · simp at hd
  | some w =>
    dsimp only [stQ]
    have hpre := preS_some ho.symm
    have hwl := preS_len ho.symm
    simp only [xr, simprocAttr]
    (repeat (first | refine g1 ?_ | refine g2 ?_ | ((first | refine g3 ?_ | refine g4 ?_ | refine g5 ?_); try simp only [xq, simprocAttr]) | ((first | refine g6 ?_ | refine g7 ?_); simp only [xr, simprocAttr]; repeat (guard_target =~ _ ∧ _; refine ⟨by first | trivial | (unfold I64; omega) | omega | (simp <;> omega) | (intros; omega), ?_⟩))))
    (refine .inr (callW_a [2, 0, 1, 3] (find1_f h hg hp hq (by omega) (by omega) (by omega)) rfl rfl rfl rfl ⟨rfl, rfl, rfl, rfl, trivial⟩ rfl rfl rfl rfl ?_); (try simp only [xr, simprocAttr]); repeat (guard_target =~ _ ∧ _; refine ⟨by first | trivial | (unfold I64; omega) | omega | (simp <;> omega) | (intros; omega), ?_⟩))
    (repeat (first | refine g1 ?_ | refine g2 ?_ | ((first | refine g3 ?_ | refine g4 ?_ | refine g5 ?_); try simp only [xq, simprocAttr]) | ((first | refine g6 ?_ | refine g7 ?_); simp only [xr, simprocAttr]; repeat (guard_target =~ _ ∧ _; refine ⟨by first | trivial | (unfold I64; omega) | omega | (simp <;> omega) | (intros; omega), ?_⟩))))
    rw [← sqT_0 K n k]
    refine awp_rounds (α := Nat) (fun t => [(7, true, .int ((n : Int) - 1 - (t : Int)))]) [0, 1, 2, 6] (fun t => [.box [.own 3], bxX L E K, .row 3 (.ints (sqT K n k t)), .row 3 (.ints w)]) (fun t => t ≤ n ∧ nines K k t) (fun t => n - t) 0 (by ((try simp only [xk]); (repeat (refine leK_cons ?_ ?_; first | (focus (first | rfl | (simp only [xr, simprocAttr]; done) | (simp only [xr, simprocAttr]; refine int_eq1 ?_; first | trivial | (unfold I64; omega) | omega | (simp <;> omega) | (intros; omega)))) | rotate_left)); (refine leK_nil ?_; exact (by rw [sqT_0])); (all_goals (try (simp only [xr, simprocAttr]; try refine int_eq1 ?_))))) ⟨Nat.zero_le _, nines_0 _ _⟩ fun t ht => ?_
    obtain ⟨ht, h9⟩ := ht
    have hq1 := sqT_len K n k t
    by_cases htn : t < n
    · have e : (n : Int) - 1 - (t : Int) = ((n - 1 - t : Nat) : Int) := by omega
      have hat := sqT_at (b := K) (k := k) htn
      have hdl := digS_le hK1 k t
      rw [e]
      simp only [xr, simprocAttr]
      (repeat (first | refine g1 ?_ | refine g2 ?_ | ((first | refine g3 ?_ | refine g4 ?_ | refine g5 ?_); try simp only [xq, simprocAttr]) | ((first | refine g6 ?_ | refine g7 ?_); simp only [xr, simprocAttr]; repeat (guard_target =~ _ ∧ _; refine ⟨by first | trivial | (unfold I64; omega) | omega | (simp <;> omega) | (intros; omega), ?_⟩))))
      rw [hat]
      refine awp_cond (by first | rfl | (simp only [xr, simprocAttr]; rfl)) (fun hc => ?_) (fun hc => ?_)
      · have hd : digS K k t + 1 = K := by simp at hc; omega
        (repeat (first | refine g1 ?_ | refine g2 ?_ | ((first | refine g3 ?_ | refine g4 ?_ | refine g5 ?_); try simp only [xq, simprocAttr]) | ((first | refine g6 ?_ | refine g7 ?_); simp only [xr, simprocAttr]; repeat (guard_target =~ _ ∧ _; refine ⟨by first | trivial | (unfold I64; omega) | omega | (simp <;> omega) | (intros; omega), ?_⟩))))
        rw [sqT_next htn]
        rw [show ((n - 1 - t : Nat) : Int) - 1 = (n : Int) - 1 - ((t + 1 : Nat) : Int) by omega]
        refine ⟨t + 1, by omega, nines_next hK1 h9 hd, by omega, .inl ?_⟩
        ((try simp only [xk]); (repeat (refine leK_cons ?_ ?_; first | (focus (first | rfl | (simp only [xr, simprocAttr]; done) | (simp only [xr, simprocAttr]; refine int_eq1 ?_; first | trivial | (unfold I64; omega) | omega | (simp <;> omega) | (intros; omega)))) | rotate_left)); (try exact leK_nil rfl); (all_goals (try (simp only [xr, simprocAttr]; try refine int_eq1 ?_))))
      · have hd : digS K k t + 1 ≠ K := by simp at hc; omega
        (repeat (first | refine g1 ?_ | refine g2 ?_ | ((first | refine g3 ?_ | refine g4 ?_ | refine g5 ?_); try simp only [xq, simprocAttr]) | ((first | refine g6 ?_ | refine g7 ?_); simp only [xr, simprocAttr]; repeat (guard_target =~ _ ∧ _; refine ⟨by first | trivial | (unfold I64; omega) | omega | (simp <;> omega) | (intros; omega), ?_⟩))))
        refine awp_cond (by first | rfl | (simp only [xr, simprocAttr]; rfl)) (fun hz => ?_) (fun hz => ?_)
        · exfalso
          simp at hz
          omega
        (repeat (first | refine g1 ?_ | refine g2 ?_ | ((first | refine g3 ?_ | refine g4 ?_ | refine g5 ?_); try simp only [xq, simprocAttr]) | ((first | refine g6 ?_ | refine g7 ?_); simp only [xr, simprocAttr]; repeat (guard_target =~ _ ∧ _; refine ⟨by first | trivial | (unfold I64; omega) | omega | (simp <;> omega) | (intros; omega), ?_⟩))))
        rw [hat, sqT_inc hK1 htn h9 hd]
        refine ⟨(k + 1, (some w)), nines_lt hK1 hk htn h9 hd, hpre.symm, by (show K ^ n - (k + 1) < K ^ n - k); omega, .inl ?_⟩
        dsimp only [stQ]
        ((try simp only [xk]); (repeat (refine leK_cons ?_ ?_; first | (focus (first | rfl | (simp only [xr, simprocAttr]; done) | (simp only [xr, simprocAttr]; refine int_eq1 ?_; first | trivial | (unfold I64; omega) | omega | (simp <;> omega) | (intros; omega)))) | rotate_left)); (try exact leK_nil rfl); (all_goals (try (simp only [xr, simprocAttr]; try refine int_eq1 ?_))))
    · obtain rfl : t = n := by omega
      have e : (t : Int) - 1 - (t : Int) = -1 := by omega
      have hfin : firstS K t (goodE a E K p) = (some w) := by
        show preS K t (goodE a E K p) (K ^ t) = _
        rw [← nines_all hK1 hk h9]
        exact hpre
      rw [e, hfin]
      dsimp only [stF]
      simp only [xr, simprocAttr]
      (repeat (first | refine g1 ?_ | refine g2 ?_ | ((first | refine g3 ?_ | refine g4 ?_ | refine g5 ?_); try simp only [xq, simprocAttr]) | ((first | refine g6 ?_ | refine g7 ?_); simp only [xr, simprocAttr]; repeat (guard_target =~ _ ∧ _; refine ⟨by first | trivial | (unfold I64; omega) | omega | (simp <;> omega) | (intros; omega), ?_⟩))))
      refine awp_cond (by first | rfl | (simp only [xr, simprocAttr]; rfl)) (fun hc => ?_) (fun hc => ?_)
      · simp at hc
      (repeat (first | refine g1 ?_ | refine g2 ?_ | ((first | refine g3 ?_ | refine g4 ?_ | refine g5 ?_); try simp only [xq, simprocAttr]) | ((first | refine g6 ?_ | refine g7 ?_); simp only [xr, simprocAttr]; repeat (guard_target =~ _ ∧ _; refine ⟨by first | trivial | (unfold I64; omega) | omega | (simp <;> omega) | (intros; omega), ?_⟩))))
      refine awp_cond (by first | rfl | (simp only [xr, simprocAttr]; rfl)) (fun hd => ?_) (fun hd => ?_)
      · (repeat (first | refine g1 ?_ | refine g2 ?_ | ((first | refine g3 ?_ | refine g4 ?_ | refine g5 ?_); try simp only [xq, simprocAttr]) | ((first | refine g6 ?_ | refine g7 ?_); simp only [xr, simprocAttr]; repeat (guard_target =~ _ ∧ _; refine ⟨by first | trivial | (unfold I64; omega) | omega | (simp <;> omega) | (intros; omega), ?_⟩))))
        (simp only [ends_normal, ends_ret]; exact retH_0 [0, 1, 3] rfl ⟨rfl, rfl, rfl, trivial⟩ rfl rfl rfl)
      · simp at hd
end Go.Proofs.Ytiaddmelbonhcaa
