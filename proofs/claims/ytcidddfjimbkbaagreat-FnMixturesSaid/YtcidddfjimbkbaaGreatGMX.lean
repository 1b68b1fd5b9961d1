/- What the law on mixtures calls, on the machine. Conditions: problems, algorithms and sequences that are right. -/
import Derived.Test.YtcidddfjimbkbaaGreatRun
import Derived.Test.YtcidddfjimbkbaaGreatWorkI
import Derived.Test.YtcidddfjimbkbaaGreatMixed
import Derived.Test.YtcidddfjimbkbaaGreatGEE
import Derived.Test.YtcidddfjimbkbaaGreatOffP
import Derived.Test.YtcidddfjimbkbaaGreatGFM
import Derived.Test.YtcidddfjimbkbaaGreatGMD
import Derived.Test.YtcidddfjimbkbaaGreatGVC
import Derived.Test.YtcidddfjimbkbaaGreatVl
import Derived.Test.YtcidddfjimbkbaaGreatMixS
set_option linter.all false
set_option linter.unusedSimpArgs false
set_option linter.unusedVariables false
namespace Go.Proofs.YtcidddfjimbkbaaGreat
open Go Go.RowKit Am

theorem algCost_d {m s next : List (List Int)} {x : Nat} {rs : List Int} (ht : takesB m s x rs = true) (hp : probB m s = true) (ha : algB m s next = true) (hx : x < m.length) (hq : reqsB s.length rs) (hl : rs.length ≤ 60) :
    Does Tryz.prog 34 [prA m s, .sl (.ii next), .int x, .sl (.ints rs)] (.imm (.tup [.one (.b (.val (.int .i64 (costS m s next x rs)))), .one (.b (.val (.bool true)))])) := by
  refine spec_imm Tryz.func34 rfl Tryz.ntmps34 cfOK (fun _ _ => by kernel_rfl) rfl (Nat.le_of_ble_eq_true rfl) ?_
  intro M0 w0
  rw [Tryz.results34]
  (repeat (first | refine g1 ?_ | refine g2 ?_ | ((first | refine g3 ?_ | refine g4 ?_ | refine g5 ?_); try simp only [xq, simprocAttr]) | ((first | refine g6 ?_ | refine g7 ?_); simp only [xr, simprocAttr]; repeat (guard_target =~ _ ∧ _; refine ⟨by first | trivial | (unfold I64; omega) | omega | (simp <;> omega) | (intros; omega), ?_⟩))))
  ((try refine Or.inl ?_); refine ⟨_, (isStarted_d m s x rs), .inl rfl, ?_⟩; (try simp only [xr, simprocAttr]); repeat (guard_target =~ _ ∧ _; refine ⟨by first | trivial | (unfold I64; omega) | omega | (simp <;> omega) | (intros; omega), ?_⟩))
  rw [ht]
  ((try refine Or.inl ?_); refine ⟨_, (fun _ => isAlgorithm_d m s next (prob_rows hp)), .inl rfl, ?_⟩; (try simp only [xr, simprocAttr]); repeat (guard_target =~ _ ∧ _; refine ⟨by first | trivial | (unfold I64; omega) | omega | (simp <;> omega) | (intros; omega), ?_⟩))
  rw [ha]
  (repeat (first | refine g1 ?_ | refine g2 ?_ | ((first | refine g3 ?_ | refine g4 ?_ | refine g5 ?_); try simp only [xq, simprocAttr]) | ((first | refine g6 ?_ | refine g7 ?_); simp only [xr, simprocAttr]; repeat (guard_target =~ _ ∧ _; refine ⟨by first | trivial | (unfold I64; omega) | omega | (simp <;> omega) | (intros; omega), ?_⟩))))
  refine awp_cond (by first | rfl | (simp only [xr, simprocAttr]; rfl)) (fun hc => ?_) (fun hc => ?_)
  · simp at hc
  (repeat (first | refine g1 ?_ | refine g2 ?_ | ((first | refine g3 ?_ | refine g4 ?_ | refine g5 ?_); try simp only [xq, simprocAttr]) | ((first | refine g6 ?_ | refine g7 ?_); simp only [xr, simprocAttr]; repeat (guard_target =~ _ ∧ _; refine ⟨by first | trivial | (unfold I64; omega) | omega | (simp <;> omega) | (intros; omega), ?_⟩))))
  ((try refine Or.inl ?_); refine ⟨_, (ran_d m s next x rs hp ha hx hq (by omega)), .inr (by and_intros <;> first | rfl | (simp; done)), ?_⟩; (try simp only [xr, simprocAttr]); repeat (guard_target =~ _ ∧ _; refine ⟨by first | trivial | (unfold I64; omega) | omega | (simp <;> omega) | (intros; omega), ?_⟩))
  (repeat (first | refine g1 ?_ | refine g2 ?_ | ((first | refine g3 ?_ | refine g4 ?_ | refine g5 ?_); try simp only [xq, simprocAttr]) | ((first | refine g6 ?_ | refine g7 ?_); simp only [xr, simprocAttr]; repeat (guard_target =~ _ ∧ _; refine ⟨by first | trivial | (unfold I64; omega) | omega | (simp <;> omega) | (intros; omega), ?_⟩))))
  (simp only [xec, simprocAttr]; refine ⟨[_, _], ⟨rfl, rfl, trivial⟩, rfl, Imp.eq ?_⟩)
  rfl
theorem leastCost_x {m s : List (List Int)} {x : Nat} {rs : List Int} (ht : takesB m s x rs = true) (hp : probB m s = true) (hx : x < m.length) (hq : reqsB s.length rs) (hl : rs.length ≤ 60) :
    Does Tryz.prog 18 [prA m s, .int x, .sl (.ints rs)] (.imm (.tup [.one (.b (.val (.int .i64 (optM m s x rs)))), .one (.b (.val (.bool true)))])) := by
  refine spec_imm Tryz.func18 rfl Tryz.ntmps18 cfOK (fun _ _ => by kernel_rfl) rfl (Nat.le_of_ble_eq_true rfl) ?_
  intro M0 w0
  rw [Tryz.results18]
  (repeat (first | refine g1 ?_ | refine g2 ?_ | ((first | refine g3 ?_ | refine g4 ?_ | refine g5 ?_); try simp only [xq, simprocAttr]) | ((first | refine g6 ?_ | refine g7 ?_); simp only [xr, simprocAttr]; repeat (guard_target =~ _ ∧ _; refine ⟨by first | trivial | (unfold I64; omega) | omega | (simp <;> omega) | (intros; omega), ?_⟩))))
  ((try refine Or.inl ?_); refine ⟨_, (isStarted_d m s x rs), .inl rfl, ?_⟩; (try simp only [xr, simprocAttr]); repeat (guard_target =~ _ ∧ _; refine ⟨by first | trivial | (unfold I64; omega) | omega | (simp <;> omega) | (intros; omega), ?_⟩))
  rw [ht]
  (repeat (first | refine g1 ?_ | refine g2 ?_ | ((first | refine g3 ?_ | refine g4 ?_ | refine g5 ?_); try simp only [xq, simprocAttr]) | ((first | refine g6 ?_ | refine g7 ?_); simp only [xr, simprocAttr]; repeat (guard_target =~ _ ∧ _; refine ⟨by first | trivial | (unfold I64; omega) | omega | (simp <;> omega) | (intros; omega), ?_⟩))))
  refine awp_cond (by first | rfl | (simp only [xr, simprocAttr]; rfl)) (fun hc => ?_) (fun hc => ?_)
  · simp at hc
  (repeat (first | refine g1 ?_ | refine g2 ?_ | ((first | refine g3 ?_ | refine g4 ?_ | refine g5 ?_); try simp only [xq, simprocAttr]) | ((first | refine g6 ?_ | refine g7 ?_); simp only [xr, simprocAttr]; repeat (guard_target =~ _ ∧ _; refine ⟨by first | trivial | (unfold I64; omega) | omega | (simp <;> omega) | (intros; omega), ?_⟩))))
  ((try refine Or.inl ?_); refine ⟨_, (leastCost_d m s x rs hp hx hq (by omega)), .inl rfl, ?_⟩; (try simp only [xr, simprocAttr]); repeat (guard_target =~ _ ∧ _; refine ⟨by first | trivial | (unfold I64; omega) | omega | (simp <;> omega) | (intros; omega), ?_⟩))
  (repeat (first | refine g1 ?_ | refine g2 ?_ | ((first | refine g3 ?_ | refine g4 ?_ | refine g5 ?_); try simp only [xq, simprocAttr]) | ((first | refine g6 ?_ | refine g7 ?_); simp only [xr, simprocAttr]; repeat (guard_target =~ _ ∧ _; refine ⟨by first | trivial | (unfold I64; omega) | omega | (simp <;> omega) | (intros; omega), ?_⟩))))
  (simp only [xec, simprocAttr]; refine ⟨[_, _], ⟨rfl, rfl, trivial⟩, rfl, Imp.eq ?_⟩)
  rfl
/-- the costs of a mixture's algorithms -/
def costsV (m s : List (List Int)) (ns : List (List (List Int))) (x : Nat) (rs : List Int) : Nat → List Int
  | 0 => []
  | k + 1 => costsV m s ns x rs k ++ [costS m s (ns.getD k []) x rs]
theorem costsV_len (m s : List (List Int)) (ns : List (List (List Int))) (x : Nat) (rs : List Int) : ∀ k, (costsV m s ns x rs k).length = k
  | 0 => rfl
  | k + 1 => by simp [costsV, costsV_len m s ns x rs k]
theorem vAlgs_h {m s : List (List Int)} {ws : List Int} {ns : List (List (List Int))} {x : Nat} {rs : List Int} (ht : takesB m s x rs = true) (h : MixOK m s ws ns) (hp : probB m s = true) (hx : x < m.length) (hq : reqsB s.length rs) (hl : rs.length ≤ 60) :
    DoesH Tryz.prog 16 [prA m s, mixA ws ns, .int x, .sl (.ints rs)] [] [] (.tv (.one (.own 0))) [.row 3 (.ints (costsV m s ns x rs ns.length))] := by
  have hhi := h.hi
  refine spec_hB Tryz.func16 rfl Tryz.ntmps16 cfOK (fun _ _ => by kernel_rfl) rfl rfl rfl ?_
  intro M0 w0 S φ0
  rw [Tryz.results16]
  (repeat (first | refine g1 ?_ | refine g2 ?_ | ((first | refine g3 ?_ | refine g4 ?_ | refine g5 ?_); try simp only [xq, simprocAttr]) | ((first | refine g6 ?_ | refine g7 ?_); simp only [xr, simprocAttr]; repeat (guard_target =~ _ ∧ _; refine ⟨by first | trivial | (unfold I64; omega) | omega | (simp <;> omega) | (intros; omega), ?_⟩))))
  refine awp_rounds (α := Nat) (fun i => [(10, true, .int i)]) [2, 3, 4, 5, 9] (fun i => [.box [.b (.sl (.ii m)), .b (.sl (.ii s))], .box [.b (.sl (.ints ws)), .b (.sl (.iii ns))], .row 3 (.ints (costsV m s ns x rs i))]) (fun i => i ≤ ns.length) (fun i => ns.length - i) 0 (by ((try simp only [xk]); (repeat (refine leK_cons ?_ ?_; first | (focus (first | rfl | (simp only [xr, simprocAttr]; done) | (simp only [xr, simprocAttr]; refine int_eq1 ?_; first | trivial | (unfold I64; omega) | omega | (simp <;> omega) | (intros; omega)))) | rotate_left)); (try exact leK_nil rfl); (all_goals (try (simp only [xr, simprocAttr]; try refine int_eq1 ?_))))) (Nat.zero_le _) fun i hi => ?_
  have hcl := costsV_len m s ns x rs i
  simp only [xr, simprocAttr]
  (repeat (first | refine g1 ?_ | refine g2 ?_ | ((first | refine g3 ?_ | refine g4 ?_ | refine g5 ?_); try simp only [xq, simprocAttr]) | ((first | refine g6 ?_ | refine g7 ?_); simp only [xr, simprocAttr]; repeat (guard_target =~ _ ∧ _; refine ⟨by first | trivial | (unfold I64; omega) | omega | (simp <;> omega) | (intros; omega), ?_⟩))))
  refine awp_cond (by first | rfl | (simp only [xr, simprocAttr]; rfl)) (fun hc => ?_) (fun hc => ?_)
  · have hc := of_decide_eq_true hc
    have hi' : i < ns.length := by omega
    (repeat (first | refine g1 ?_ | refine g2 ?_ | ((first | refine g3 ?_ | refine g4 ?_ | refine g5 ?_); try simp only [xq, simprocAttr]) | ((first | refine g6 ?_ | refine g7 ?_); simp only [xr, simprocAttr]; repeat (guard_target =~ _ ∧ _; refine ⟨by first | trivial | (unfold I64; omega) | omega | (simp <;> omega) | (intros; omega), ?_⟩))))
    ((try refine Or.inl ?_); refine ⟨_, (algCost_d ht hp (h.alg i hi') hx hq hl), .inl rfl, ?_⟩; (try simp only [xr, simprocAttr]); repeat (guard_target =~ _ ∧ _; refine ⟨by first | trivial | (unfold I64; omega) | omega | (simp <;> omega) | (intros; omega), ?_⟩))
    (repeat (first | refine g1 ?_ | refine g2 ?_ | ((first | refine g3 ?_ | refine g4 ?_ | refine g5 ?_); try simp only [xq, simprocAttr]) | ((first | refine g6 ?_ | refine g7 ?_); simp only [xr, simprocAttr]; repeat (guard_target =~ _ ∧ _; refine ⟨by first | trivial | (unfold I64; omega) | omega | (simp <;> omega) | (intros; omega), ?_⟩))))
    refine ⟨i + 1, by omega, by omega, .inl ?_⟩
    ((try simp only [xk]); (repeat (refine leK_cons ?_ ?_; first | (focus (first | rfl | (simp only [xr, simprocAttr]; done) | (simp only [xr, simprocAttr]; refine int_eq1 ?_; first | trivial | (unfold I64; omega) | omega | (simp <;> omega) | (intros; omega)))) | rotate_left)); (refine leK_nil ?_; exact (rfl)); (all_goals (try (simp only [xr, simprocAttr]; try refine int_eq1 ?_))))
  · have hc := of_decide_eq_false hc
    obtain rfl : i = ns.length := by omega
    (repeat (first | refine g1 ?_ | refine g2 ?_ | ((first | refine g3 ?_ | refine g4 ?_ | refine g5 ?_); try simp only [xq, simprocAttr]) | ((first | refine g6 ?_ | refine g7 ?_); simp only [xr, simprocAttr]; repeat (guard_target =~ _ ∧ _; refine ⟨by first | trivial | (unfold I64; omega) | omega | (simp <;> omega) | (intros; omega), ?_⟩))))
    (simp only [ends_normal, ends_ret]; refine retH_1 [2] rfl ⟨rfl, trivial⟩ rfl rfl rfl rfl rfl ?_; try rfl)
theorem vSum_d (xs : List Int) (hl : xs.length ≤ 1000) (hx : ∀ k, 0 ≤ xs.getD k 0 ∧ xs.getD k 0 ≤ 1000000) : Does Tryz.prog 19 [.sl (.ints xs)] (.imm (.int xs.sum)) := by
  have hb : ∀ k, k ≤ 1000 → 0 ≤ (xs.take k).sum ∧ (xs.take k).sum ≤ 1000000 * k := fun k => by
    induction k with
    | zero => simp
    | succ k ih =>
      intro hk
      have h1 := ih (by omega)
      have h2 := hx k
      rw [sum_getD]
      omega
  refine spec_imm Tryz.func19 rfl Tryz.ntmps19 cfOK (fun _ _ => by kernel_rfl) rfl (Nat.le_of_ble_eq_true rfl) ?_
  intro M0 w0
  rw [Tryz.results19]
  (repeat (first | refine g1 ?_ | refine g2 ?_ | ((first | refine g3 ?_ | refine g4 ?_ | refine g5 ?_); try simp only [xq, simprocAttr]) | ((first | refine g6 ?_ | refine g7 ?_); simp only [xr, simprocAttr]; repeat (guard_target =~ _ ∧ _; refine ⟨by first | trivial | (unfold I64; omega) | omega | (simp <;> omega) | (intros; omega), ?_⟩))))
  refine awp_rounds (α := Nat) (fun k => [(4, true, .int k), (3, true, .int (xs.take k).sum)]) [0] (fun _ => []) (fun k => k ≤ xs.length) (fun k => xs.length - k) 0 (by ((try simp only [xk]); (repeat (refine leK_cons ?_ ?_; first | (focus (first | rfl | (simp only [xr, simprocAttr]; done) | (simp only [xr, simprocAttr]; refine int_eq1 ?_; first | trivial | (unfold I64; omega) | omega | (simp <;> omega) | (intros; omega)))) | rotate_left)); (try exact leK_nil rfl); (all_goals (try (simp only [xr, simprocAttr]; try refine int_eq1 ?_))))) (Nat.zero_le _) fun k hk => ?_
  have hbk := hb k (by omega)
  have hbx := hx k
  have hsk := sum_getD xs k
  simp only [xr, simprocAttr]
  (repeat (first | refine g1 ?_ | refine g2 ?_ | ((first | refine g3 ?_ | refine g4 ?_ | refine g5 ?_); try simp only [xq, simprocAttr]) | ((first | refine g6 ?_ | refine g7 ?_); simp only [xr, simprocAttr]; repeat (guard_target =~ _ ∧ _; refine ⟨by first | trivial | (unfold I64; omega) | omega | (simp <;> omega) | (intros; omega), ?_⟩))))
  refine awp_cond (by first | rfl | (simp only [xr, simprocAttr]; rfl)) (fun hc => ?_) (fun hc => ?_)
  · have hc := of_decide_eq_true hc
    have hk' : k < xs.length := by omega
    (repeat (first | refine g1 ?_ | refine g2 ?_ | ((first | refine g3 ?_ | refine g4 ?_ | refine g5 ?_); try simp only [xq, simprocAttr]) | ((first | refine g6 ?_ | refine g7 ?_); simp only [xr, simprocAttr]; repeat (guard_target =~ _ ∧ _; refine ⟨by first | trivial | (unfold I64; omega) | omega | (simp <;> omega) | (intros; omega), ?_⟩))))
    refine ⟨k + 1, by omega, by omega, .inl ?_⟩
    ((try simp only [xk]); (repeat (refine leK_cons ?_ ?_; first | (focus (first | rfl | (simp only [xr, simprocAttr]; done) | (simp only [xr, simprocAttr]; refine int_eq1 ?_; first | trivial | (unfold I64; omega) | omega | (simp <;> omega) | (intros; omega)))) | rotate_left)); (try exact leK_nil rfl); (all_goals (try (simp only [xr, simprocAttr]; try refine int_eq1 ?_))))
  · have hc := of_decide_eq_false hc
    obtain rfl : k = xs.length := by omega
    (repeat (first | refine g1 ?_ | refine g2 ?_ | ((first | refine g3 ?_ | refine g4 ?_ | refine g5 ?_); try simp only [xq, simprocAttr]) | ((first | refine g6 ?_ | refine g7 ?_); simp only [xr, simprocAttr]; repeat (guard_target =~ _ ∧ _; refine ⟨by first | trivial | (unfold I64; omega) | omega | (simp <;> omega) | (intros; omega), ?_⟩))))
    (simp only [xe, simprocAttr]; refine ⟨_, rfl, rfl, Imp.eq ?_⟩)
    rw [List.take_length]
end Go.Proofs.YtcidddfjimbkbaaGreat
/- The law on mixtures, in plain: a mixture costs the mean of its algorithms' costs, so no less than the least cost, and its last states' shares have the sum 1. Conditions: problems, algorithms and sequences that are right. -/
set_option linter.all false
set_option linter.unusedSimpArgs false
set_option linter.unusedVariables false
namespace Go.Proofs.YtcidddfjimbkbaaGreat

theorem minTo_sh {p : Nat → Bool} {f g : Nat → Int} {c : Int} (hc : 0 ≤ c) : ∀ n, (∀ y, y < n → p y = true → f y ≤ g y + c) → minTo p f n ≤ minTo p g n + c
  | 0, _ => by simp only [minTo]; omega
  | n + 1, h => by
    have ih := minTo_sh hc n fun y hy => h y (by omega)
    simp only [minTo]
    cases hp : p n with
    | false => simpa using ih
    | true =>
      have h2 := h n (by omega) hp
      simp only [if_true]
      omega
theorem minTo_le {p : Nat → Bool} {f : Nat → Int} : ∀ n y, y < n → p y = true → minTo p f n ≤ f y
  | 0, y, h, _ => by omega
  | n + 1, y, h, hp => by
    simp only [minTo]
    by_cases e : y = n
    · subst e
      rw [if_pos hp]
      omega
    · have ih := minTo_le (p := p) (f := f) n y (by omega) hp
      split <;> omega
theorem prob_tri {m s : List (List Int)} (hp : probB m s = true) {x y z : Nat} (hx : x < m.length) (hy : y < m.length) (hz : z < m.length) : at2 m x z ≤ at2 m x y + at2 m y z := by
  have h1 := prob_met hp
  unfold metB at h1
  simp only [Bool.and_eq_true] at h1
  exact of_decide_eq_true (allLt_iff.1 (allLt_iff.1 (allLt_iff.1 h1.2 x hx) y hy) z hz)
theorem prob_0 {m s : List (List Int)} (hp : probB m s = true) {x : Nat} (hx : x < m.length) : at2 m x x = 0 := by
  have h1 := prob_met hp
  unfold metB at h1
  simp only [Bool.and_eq_true] at h1
  have h2 := h1.1
  unfold tableB at h2
  simp only [Bool.and_eq_true] at h2
  exact (cellOk_iff.1 (allLt_iff.1 (allLt_iff.1 h2.2 x hx) x hx)).2.1 rfl
/-- no state is much dearer than its neighbours -/
def Lip (m : List (List Int)) (w : List Int) : Prop := ∀ a b, a < m.length → b < m.length → w.getD b 0 ≤ w.getD a 0 + at2 m a b
theorem nextM_lip {m s : List (List Int)} (hp : probB m s = true) (w : List Int) (r : Nat) : Lip m (nextM m s w r) := fun a b ha hb => by
  unfold nextM
  rw [rangeMap_getD _ _ hb, rangeMap_getD _ _ ha]
  unfold wAt
  refine minTo_sh ((prob_m hp ha).2 b hb).1 _ fun y hy _ => ?_
  have := prob_tri hp hy ha hb
  unfold wOff
  omega
theorem work_le {m s next : List (List Int)} (hp : probB m s = true) (hal : algB m s next = true) : ∀ (rs : List Int) (w : List Int) (a : Nat), Lip m w → a < m.length → reqsB s.length rs → ∃ y, y < m.length ∧ (rs.foldl (fun w r => nextM m s w r.toNat) w).getD y 0 ≤ w.getD a 0 + costS m s next a rs
  | [], w, a, _, ha, _ => ⟨a, ha, by simp [costS]⟩
  | r :: rs, w, a, hw, ha, hq => by
    have hr := hq r (by simp)
    obtain ⟨k, rfl⟩ : ∃ k : Nat, r = k := ⟨r.toNat, by omega⟩
    have h1 := alg_at hal ha (show k < s.length by omega)
    obtain ⟨y, hy, h2⟩ := work_le hp hal rs (nextM m s w k) (stepS next a k) (nextM_lip hp w k) h1.lt fun v hv => hq v (by simp [hv])
    refine ⟨y, hy, ?_⟩
    rw [List.foldl_cons, Int.toNat_natCast]
    have h3 : (nextM m s w k).getD (stepS next a k) 0 ≤ w.getD (stepS next a k) 0 + at2 s k (stepS next a k) + at2 m (stepS next a k) (stepS next a k) := by
      unfold nextM
      rw [rangeMap_getD _ _ h1.lt]
      exact minTo_le (p := fun y => decide (0 ≤ at2 s k y)) (f := wOff m s w k (stepS next a k)) _ _ h1.lt (decide_eq_true h1.ok)
    have h4 := prob_0 hp h1.lt
    have h5 := hw a (stepS next a k) ha h1.lt
    have h6 : costS m s next a ((k : Int) :: rs) = at2 m a (stepS next a k) + at2 s k (stepS next a k) + costS m s next (stepS next a k) rs := by
      simp only [costS, Int.toNat_natCast]
    omega
/-- no algorithm costs less than the least cost -/
theorem opt_le {m s next : List (List Int)} (hp : probB m s = true) (hal : algB m s next = true) {x : Nat} (hx : x < m.length) {rs : List Int} (hq : reqsB s.length rs) : optM m s x rs ≤ costS m s next x rs := by
  have hl : Lip m (m.getD x []) := fun a b ha hb => prob_tri hp hx ha hb
  obtain ⟨y, hy, h⟩ := work_le hp hal rs (m.getD x []) x hl hx hq
  have h0 : (m.getD x []).getD x 0 = 0 := prob_0 hp hx
  have h1 := leastM_le (workM m s x rs) (m.length - 1) y (by omega)
  unfold optM
  unfold workM at h1 ⊢
  omega
theorem mixed_ge {m s : List (List Int)} {ws : List Int} {ns : List (List (List Int))} (h : MixOK m s ws ns) (hp : probB m s = true) {x : Nat} (hx : x < m.length) {rs : List Int} (hq : reqsB s.length rs) : ∀ k, k ≤ ns.length → sumTo (fun i => ws.getD i 0) k * optM m s x rs ≤ mixedS m s ws ns x rs k
  | 0, _ => by simp [sumTo, mixedS]
  | k + 1, hk => by
    have ih := mixed_ge h hp hx hq k (by omega)
    have h1 := opt_le hp (h.alg k (by omega)) hx hq
    have h2 := (h.w k (by omega)).1
    have h3 : ws.getD k 0 * optM m s x rs ≤ ws.getD k 0 * costS m s (ns.getD k []) x rs := Int.mul_le_mul_of_nonneg_left h1 (by omega)
    unfold mixedS at ih ⊢
    simp only [sumTo, Int.add_mul]
    omega
theorem sum_range (g : Nat → Int) : ∀ n, ((List.range n).map g).sum = sumTo g n
  | 0 => rfl
  | n + 1 => by rw [List.range_succ, List.map_append, List.sum_append, sum_range g n]; simp [sumTo]
theorem sumTo_add (f g : Nat → Int) : ∀ n, sumTo (fun y => f y + g y) n = sumTo f n + sumTo g n
  | 0 => rfl
  | n + 1 => by simp only [sumTo, sumTo_add f g n]; omega
theorem sumTo_one (e : Nat) (w : Int) : ∀ n, sumTo (fun y => if e = y then w else 0) n = if e < n then w else 0
  | 0 => by simp [sumTo]
  | n + 1 => by
    simp only [sumTo, sumTo_one e w n]
    by_cases h1 : e < n
    · rw [if_pos h1, if_neg (by omega), if_pos (by omega)]; omega
    · by_cases h2 : e = n
      · rw [if_neg h1, if_pos h2, if_pos (by omega)]; omega
      · rw [if_neg h1, if_neg h2, if_neg (by omega)]; rfl
theorem endW_sum {m s : List (List Int)} {ws : List Int} {ns : List (List (List Int))} (h : MixOK m s ws ns) {x : Nat} (hx : x < m.length) {rs : List Int} (hq : reqsB s.length rs) : ∀ i, i ≤ ns.length → (endW m ws ns x rs i).sum = sumTo (fun j => ws.getD j 0) i
  | 0, _ => by
    unfold endW
    rw [sum_range]
    have : ∀ n, sumTo (fun y => sumTo (endF ws ns x rs y) 0) n = 0 := fun n => by
      induction n with
      | zero => rfl
      | succ n ih => simp only [sumTo] at ih ⊢; omega
    rw [this]
    rfl
  | i + 1, hi => by
    have ih := endW_sum h hx hq i (by omega)
    unfold endW at ih ⊢
    rw [sum_range] at ih ⊢
    have h1 := endS_lt (h.alg i (by omega)) rs x hx hq
    have e : sumTo (fun y => sumTo (endF ws ns x rs y) (i + 1)) m.length = sumTo (fun y => sumTo (endF ws ns x rs y) i) m.length + sumTo (fun y => if endS (ns.getD i []) x rs = y then ws.getD i 0 else 0) m.length := by
      rw [← sumTo_add]
      rfl
    rw [e, ih, sumTo_one, if_pos h1]
    rfl
end Go.Proofs.YtcidddfjimbkbaaGreat
/- Sums of fractions of one denominator, on the machine (as in the text on MarkBound). Conditions: small numbers. -/
set_option linter.all false
set_option linter.unusedSimpArgs false
set_option linter.unusedVariables false
namespace Go.Proofs.YtcidddfjimbkbaaGreat
open Go Go.RowKit Am

theorem fr_zero1 {D : Int} (h : 0 < D) : mkFr 0 D = (0, 1) := by
  have e : mkFr 0 D = mkFr 0 1 := (fr_cross h (by decide) (by simp)).2
  rw [e]
  decide +kernel
set_option maxHeartbeats 1000000 in
theorem sumFracs_f (D : Int) (hD : 1 ≤ D) (hD2 : D ≤ 100000) (l : List (Int × Int)) (ns : List Int) (hl : l.length = ns.length) (hn : ns.length ≤ 100) (hf : ∀ k, k < ns.length → IsFr (l.getD k (0, 0)) (ns.getD k 0) D) (hb : ∀ k, k ≤ ns.length → -100000000 ≤ (ns.take k).sum ∧ (ns.take k).sum ≤ 100000000) : Does Tryz.prog 17 [.sl (.k 2 (l.map frL))] (.imm (.tup [frT (mkFr ns.sum D), blT true])) := by
  have hml : (l.map frL).length = ns.length := by rw [List.length_map, hl]
  have h0 := fr_zero1 (D := D) (by omega)
  refine spec_imm Tryz.func17 rfl Tryz.ntmps17 cfOK (fun _ _ => by kernel_rfl) rfl (Nat.le_of_ble_eq_true rfl) ?_
  intro M0 w0
  rw [Tryz.results17]
  (repeat (first | refine g1 ?_ | refine g2 ?_ | ((first | refine g3 ?_ | refine g4 ?_ | refine g5 ?_); try simp only [xq, simprocAttr]) | ((first | refine g6 ?_ | refine g7 ?_); simp only [xr, simprocAttr]; repeat (guard_target =~ _ ∧ _; refine ⟨by first | trivial | (unfold I64; omega) | omega | (simp <;> omega) | (intros; omega), ?_⟩))))
  refine awp_cond (by first | rfl | (simp only [xr, simprocAttr]; rfl)) (fun hc => ?_) (fun hc => ?_)
  · have := of_decide_eq_true hc
    omega
  (repeat (first | refine g1 ?_ | refine g2 ?_ | ((first | refine g3 ?_ | refine g4 ?_ | refine g5 ?_); try simp only [xq, simprocAttr]) | ((first | refine g6 ?_ | refine g7 ?_); simp only [xr, simprocAttr]; repeat (guard_target =~ _ ∧ _; refine ⟨by first | trivial | (unfold I64; omega) | omega | (simp <;> omega) | (intros; omega), ?_⟩))))
  refine awp_rounds (α := Nat) (fun k => [(15, true, .int k), (5, true, .bool true)]) [2, 4, 13, 14] (fun k => [.box [.b (.val (.int .i64 0)), .b (.val (.int .i64 0))], .box [.b (.val (.int .i64 (mkFr (ns.take k).sum D).1)), .b (.val (.int .i64 (mkFr (ns.take k).sum D).2))]]) (fun k => k ≤ ns.length) (fun k => ns.length - k) 0 (by ((try simp only [xk]); (repeat (refine leK_cons ?_ ?_; first | (focus (first | rfl | (simp only [xr, simprocAttr]; done) | (simp only [xr, simprocAttr]; refine int_eq1 ?_; first | trivial | (unfold I64; omega) | omega | (simp <;> omega) | (intros; omega)))) | rotate_left)); (refine leK_nil ?_; exact (by simp [h0])); (all_goals (try (simp only [xr, simprocAttr]; try refine int_eq1 ?_))))) (Nat.zero_le _) fun k hk => ?_
  simp only [xr, simprocAttr]
  (repeat (first | refine g1 ?_ | refine g2 ?_ | ((first | refine g3 ?_ | refine g4 ?_ | refine g5 ?_); try simp only [xq, simprocAttr]) | ((first | refine g6 ?_ | refine g7 ?_); simp only [xr, simprocAttr]; repeat (guard_target =~ _ ∧ _; refine ⟨by first | trivial | (unfold I64; omega) | omega | (simp <;> omega) | (intros; omega), ?_⟩))))
  refine awp_cond (by first | rfl | (simp only [xr, simprocAttr]; rfl)) (fun hc => ?_) (fun hc => ?_)
  · have hk' : k < ns.length := by have := of_decide_eq_true hc; omega
    have hs := hb k (by omega)
    have hs1 := hb (k + 1) (by omega)
    have hsum : (ns.take (k + 1)).sum = (ns.take k).sum + ns.getD k 0 := by rw [take_getD hk' 0, List.sum_append]; simp
    have hfr := isFr_small (n := (ns.take k).sum) (d := D) (by omega) hD2 hs.1 hs.2
    have hok := ok_small (n := (ns.take (k + 1)).sum) (d := D) (by omega) hD2 hs1.1 hs1.2
    have hat : (l.map frL).getD k [] = frL (l.getD k (0, 0)) := by
      have h1 : k < l.length := by omega
      rw [getD_in (by rw [List.length_map]; exact h1), List.getElem_map, getD_in h1]
    have hadd := addFracs_f hfr (hf k hk')
    rw [← hsum, hok] at hadd
    generalize l.getD k (0, 0) = p at hat hadd
    (repeat (first | refine g1 ?_ | refine g2 ?_ | ((first | refine g3 ?_ | refine g4 ?_ | refine g5 ?_); try simp only [xq, simprocAttr]) | ((first | refine g6 ?_ | refine g7 ?_); simp only [xr, simprocAttr]; repeat (guard_target =~ _ ∧ _; refine ⟨by first | trivial | (unfold I64; omega) | omega | (simp <;> omega) | (intros; omega), ?_⟩))))
    rw [hat]
    (simp only [xr, simprocAttr, frL]; repeat (guard_target =~ _ ∧ _; refine ⟨by first | trivial | (unfold I64; omega) | omega | (simp <;> omega) | (intros; omega), ?_⟩))
    (repeat (first | refine g1 ?_ | refine g2 ?_ | ((first | refine g3 ?_ | refine g4 ?_ | refine g5 ?_); try simp only [xq, simprocAttr]) | ((first | refine g6 ?_ | refine g7 ?_); simp only [xr, simprocAttr]; repeat (guard_target =~ _ ∧ _; refine ⟨by first | trivial | (unfold I64; omega) | omega | (simp <;> omega) | (intros; omega), ?_⟩))))
    ((try refine Or.inl ?_); refine ⟨_, hadd, .inr (by and_intros <;> first | rfl | (simp; done)), ?_⟩; (try simp only [xr, simprocAttr]); repeat (guard_target =~ _ ∧ _; refine ⟨by first | trivial | (unfold I64; omega) | omega | (simp <;> omega) | (intros; omega), ?_⟩))
    (repeat (first | refine g1 ?_ | refine g2 ?_ | ((first | refine g3 ?_ | refine g4 ?_ | refine g5 ?_); try simp only [xq, simprocAttr]) | ((first | refine g6 ?_ | refine g7 ?_); simp only [xr, simprocAttr]; repeat (guard_target =~ _ ∧ _; refine ⟨by first | trivial | (unfold I64; omega) | omega | (simp <;> omega) | (intros; omega), ?_⟩))))
    refine awp_cond (by first | rfl | (simp only [xr, simprocAttr]; rfl)) (fun hd => ?_) (fun hd => ?_)
    · cases hd
    (repeat (first | refine g1 ?_ | refine g2 ?_ | ((first | refine g3 ?_ | refine g4 ?_ | refine g5 ?_); try simp only [xq, simprocAttr]) | ((first | refine g6 ?_ | refine g7 ?_); simp only [xr, simprocAttr]; repeat (guard_target =~ _ ∧ _; refine ⟨by first | trivial | (unfold I64; omega) | omega | (simp <;> omega) | (intros; omega), ?_⟩))))
    refine ⟨k + 1, by omega, by omega, .inr ⟨2, Nat.le_of_ble_eq_true rfl, leT_of ?_ rfl rfl rfl⟩⟩
    ((try simp only [xk]); (repeat (refine leK_cons ?_ ?_; first | (focus (first | rfl | (simp only [xr, simprocAttr]; done) | (simp only [xr, simprocAttr]; refine int_eq1 ?_; first | trivial | (unfold I64; omega) | omega | (simp <;> omega) | (intros; omega)))) | rotate_left)); (refine leK_nil ?_; exact (by rfl)); (all_goals (try (simp only [xr, simprocAttr]; try refine int_eq1 ?_))))
  · have hk' : k = ns.length := by have := of_decide_eq_false hc; omega
    subst hk'
    rw [List.take_length]
    (repeat (first | refine g1 ?_ | refine g2 ?_ | ((first | refine g3 ?_ | refine g4 ?_ | refine g5 ?_); try simp only [xq, simprocAttr]) | ((first | refine g6 ?_ | refine g7 ?_); simp only [xr, simprocAttr]; repeat (guard_target =~ _ ∧ _; refine ⟨by first | trivial | (unfold I64; omega) | omega | (simp <;> omega) | (intros; omega), ?_⟩))))
    (simp only [xec, simprocAttr]; refine ⟨[_, _], ⟨⟨by simp only [xr, simprocAttr] <;> (and_intros <;> first | trivial | (unfold I64; omega) | omega | (simp <;> omega) | (intros; omega)), rfl⟩, rfl, trivial⟩, rfl, Imp.eq ?_⟩)
    rfl
end Go.Proofs.YtcidddfjimbkbaaGreat
/- The law on mixtures, on the machine: where nothing is told. Conditions: bytes are bytes. -/
set_option linter.all false
set_option linter.unusedSimpArgs false
set_option linter.unusedVariables false
namespace Go.Proofs.YtcidddfjimbkbaaGreat
open Go Go.RowKit Am

theorem vFracs_s (xs : List (List Int)) (hx : ∀ x ∈ xs, x.length = 2) : Does Tryz.prog 15 [.sl (.k 2 xs), .sl (.k 2 xs)] (.imm (.bool true)) := by
  refine spec_imm Tryz.func15 rfl Tryz.ntmps15 cfOK (fun _ _ => by kernel_rfl) rfl (Nat.le_of_ble_eq_true rfl) ?_
  intro M0 w0
  rw [Tryz.results15]
  (refine awp_fits 0 rfl fun hf => ?_; simp only [xp, simprocAttr] at hf; simp only [xf, simprocAttr] at hf)
  (repeat (first | refine g1 ?_ | refine g2 ?_ | ((first | refine g3 ?_ | refine g4 ?_ | refine g5 ?_); try simp only [xq, simprocAttr]) | ((first | refine g6 ?_ | refine g7 ?_); simp only [xr, simprocAttr]; repeat (guard_target =~ _ ∧ _; refine ⟨by first | trivial | (unfold I64; omega) | omega | (simp <;> omega) | (intros; omega), ?_⟩))))
  refine awp_cond (by first | rfl | (simp only [xr, simprocAttr]; rfl)) (fun hc => ?_) (fun hc => ?_)
  · simp at hc
  (repeat (first | refine g1 ?_ | refine g2 ?_ | ((first | refine g3 ?_ | refine g4 ?_ | refine g5 ?_); try simp only [xq, simprocAttr]) | ((first | refine g6 ?_ | refine g7 ?_); simp only [xr, simprocAttr]; repeat (guard_target =~ _ ∧ _; refine ⟨by first | trivial | (unfold I64; omega) | omega | (simp <;> omega) | (intros; omega), ?_⟩))))
  refine awp_rounds (α := Nat) (fun k => [(5, true, .int k)]) [0, 1] (fun _ => []) (fun k => k ≤ xs.length) (fun k => xs.length - k) 0 (by ((try simp only [xk]); (repeat (refine leK_cons ?_ ?_; first | (focus (first | rfl | (simp only [xr, simprocAttr]; done) | (simp only [xr, simprocAttr]; refine int_eq1 ?_; first | trivial | (unfold I64; omega) | omega | (simp <;> omega) | (intros; omega)))) | rotate_left)); (try exact leK_nil rfl); (all_goals (try (simp only [xr, simprocAttr]; try refine int_eq1 ?_))))) (Nat.zero_le _) fun k hk => ?_
  simp only [xr, simprocAttr]
  (repeat (first | refine g1 ?_ | refine g2 ?_ | ((first | refine g3 ?_ | refine g4 ?_ | refine g5 ?_); try simp only [xq, simprocAttr]) | ((first | refine g6 ?_ | refine g7 ?_); simp only [xr, simprocAttr]; repeat (guard_target =~ _ ∧ _; refine ⟨by first | trivial | (unfold I64; omega) | omega | (simp <;> omega) | (intros; omega), ?_⟩))))
  refine awp_cond (by first | rfl | (simp only [xr, simprocAttr]; rfl)) (fun hd => ?_) (fun hd => ?_)
  · have hd := of_decide_eq_true hd
    have hk' : k < xs.length := by omega
    (repeat (first | refine g1 ?_ | refine g2 ?_ | ((first | refine g3 ?_ | refine g4 ?_ | refine g5 ?_); try simp only [xq, simprocAttr]) | ((first | refine g6 ?_ | refine g7 ?_); simp only [xr, simprocAttr]; repeat (guard_target =~ _ ∧ _; refine ⟨by first | trivial | (unfold I64; omega) | omega | (simp <;> omega) | (intros; omega), ?_⟩))))
    refine awp_cond (by first | rfl | (simp only [xr, simprocAttr]; rfl)) (fun he => ?_) (fun he => ?_)
    · simp at he
    · (repeat (first | refine g1 ?_ | refine g2 ?_ | ((first | refine g3 ?_ | refine g4 ?_ | refine g5 ?_); try simp only [xq, simprocAttr]) | ((first | refine g6 ?_ | refine g7 ?_); simp only [xr, simprocAttr]; repeat (guard_target =~ _ ∧ _; refine ⟨by first | trivial | (unfold I64; omega) | omega | (simp <;> omega) | (intros; omega), ?_⟩))))
      refine ⟨k + 1, by omega, by omega, .inl ?_⟩
      ((try simp only [xk]); (repeat (refine leK_cons ?_ ?_; first | (focus (first | rfl | (simp only [xr, simprocAttr]; done) | (simp only [xr, simprocAttr]; refine int_eq1 ?_; first | trivial | (unfold I64; omega) | omega | (simp <;> omega) | (intros; omega)))) | rotate_left)); (try exact leK_nil rfl); (all_goals (try (simp only [xr, simprocAttr]; try refine int_eq1 ?_))))
  · (repeat (first | refine g1 ?_ | refine g2 ?_ | ((first | refine g3 ?_ | refine g4 ?_ | refine g5 ?_); try simp only [xq, simprocAttr]) | ((first | refine g6 ?_ | refine g7 ?_); simp only [xr, simprocAttr]; repeat (guard_target =~ _ ∧ _; refine ⟨by first | trivial | (unfold I64; omega) | omega | (simp <;> omega) | (intros; omega), ?_⟩))))
    (simp only [xe, simprocAttr]; refine ⟨_, rfl, rfl, Imp.eq ?_⟩)
    rfl
theorem vFracs_n : Does Tryz.prog 15 [.val (.slice none 0 0), .sl (.k 2 [])] (.imm (.bool true)) :=
  Does.args (vFracs_s [] (fun _ h => by cases h)) fun M us ha => by
    obtain ⟨u, us', rfl, h1, h2⟩ := args_inv ha
    exact args_cons (nil_av (c := .k 2 []) rfl (fun _ h => by cases h) h1) h2
theorem walkM_big {bs : List Int} (h : 65536 < (bs.length : Int)) : Does Tryz.prog 3 [.lf (.b (.raw bs))] (.imm (.bool true)) := by
  refine spec_imm Tryz.func3 rfl Tryz.ntmps3 cfOK (fun _ _ => by kernel_rfl) rfl (Nat.le_of_ble_eq_true rfl) ?_
  intro M0 w0
  rw [Tryz.results3]
  (repeat (first | refine g1 ?_ | refine g2 ?_ | ((first | refine g3 ?_ | refine g4 ?_ | refine g5 ?_); try simp only [xq, simprocAttr]) | ((first | refine g6 ?_ | refine g7 ?_); simp only [xr, simprocAttr]; repeat (guard_target =~ _ ∧ _; refine ⟨by first | trivial | (unfold I64; omega) | omega | (simp <;> omega) | (intros; omega), ?_⟩))))
  ((try refine Or.inl ?_); refine ⟨_, (vBig_d bs), .inl rfl, ?_⟩; (try simp only [xr, simprocAttr]); repeat (guard_target =~ _ ∧ _; refine ⟨by first | trivial | (unfold I64; omega) | omega | (simp <;> omega) | (intros; omega), ?_⟩))
  (repeat (first | refine g1 ?_ | refine g2 ?_ | ((first | refine g3 ?_ | refine g4 ?_ | refine g5 ?_); try simp only [xq, simprocAttr]) | ((first | refine g6 ?_ | refine g7 ?_); simp only [xr, simprocAttr]; repeat (guard_target =~ _ ∧ _; refine ⟨by first | trivial | (unfold I64; omega) | omega | (simp <;> omega) | (intros; omega), ?_⟩))))
  refine awp_cond (by first | rfl | (simp only [xr, simprocAttr]; rfl)) (fun h0 => ?_) (fun h0 => ?_)
  · (repeat (first | refine g1 ?_ | refine g2 ?_ | ((first | refine g3 ?_ | refine g4 ?_ | refine g5 ?_); try simp only [xq, simprocAttr]) | ((first | refine g6 ?_ | refine g7 ?_); simp only [xr, simprocAttr]; repeat (guard_target =~ _ ∧ _; refine ⟨by first | trivial | (unfold I64; omega) | omega | (simp <;> omega) | (intros; omega), ?_⟩))))
    (simp only [xe, simprocAttr]; refine ⟨_, rfl, rfl, Imp.eq ?_⟩)
    rfl
  · simp at h0; omega
abbrev mxA (m s : List (List Int)) (w : List Int) (X : List (List (List Int))) : AV := .tup [.agg [.b (.sl (.ii m)), .b (.sl (.ii s))], .agg [.b (.sl (.ints w)), .b (.sl (.iii X))]]
abbrev mxB (m s : List (List Int)) (w : List Int) (X : List (List (List Int))) (x : Int) (rs : List Int) : AV := .tup [.agg [.b (.sl (.ii m)), .b (.sl (.ii s))], .agg [.b (.sl (.ints w)), .b (.sl (.iii X))], .one (.b (.val (.int .i64 x))), .one (.b (.sl (.ints rs)))]
set_option maxRecDepth 20000 in
theorem walkM_bad {bs : List Int} {m s : List (List Int)} {w : List Int} {X : List (List (List Int))} {q t : List (List Int)} {v : List Int} {Y : List (List (List Int))} {x : Int} {rs : List Int} (hsm : ¬ 65536 < (bs.length : Int)) (hD : Does Tryz.prog 6 [.lf (.b (.raw bs))] (.imm (mxA m s w X))) (hD2 : Does Tryz.prog 9 [.lf (.b (.raw (cutB bs 1)))] (.imm (mxB q t v Y x rs))) (hb : mstB q t v Y x rs = false) : Does Tryz.prog 3 [.lf (.b (.raw bs))] (.imm (.bool true)) := by
  have hI := impl_IsMixture_d m s w X
  have hS := spec_IsMixture_d m s w X
  have hC := impl_MixtureCost_d q t v Y x rs
  have hK := spec_MixtureCost_d q t v Y x rs
  have hE := impl_MixtureStates_0 q t v Y x rs hb
  have hF := spec_MixtureStates_d q t v Y x rs
  have hb' : (takesB q t x rs && mixB q t v Y 4) = false := hb
  have hcut := vCut_d (bs := bs) (by omega) (n := 1) (by omega)
  simp only [frIf] at hC hK
  rw [hb'] at hC hK
  rw [hb] at hF
  generalize (probB m s && mixB m s w X 4) = i1 at hI hS
  generalize probB m s = i2 at hI hS
  refine spec_imm Tryz.func3 rfl Tryz.ntmps3 cfOK (fun _ _ => by kernel_rfl) rfl (Nat.le_of_ble_eq_true rfl) ?_
  intro M0 w0
  rw [Tryz.results3]
  (repeat (first | refine g1 ?_ | refine g2 ?_ | ((first | refine g3 ?_ | refine g4 ?_ | refine g5 ?_); try simp only [xq, simprocAttr]) | ((first | refine g6 ?_ | refine g7 ?_); simp only [xr, simprocAttr]; repeat (guard_target =~ _ ∧ _; refine ⟨by first | trivial | (unfold I64; omega) | omega | (simp <;> omega) | (intros; omega), ?_⟩))))
  ((try refine Or.inl ?_); refine ⟨_, (vBig_d bs), .inl rfl, ?_⟩; (try simp only [xr, simprocAttr]); repeat (guard_target =~ _ ∧ _; refine ⟨by first | trivial | (unfold I64; omega) | omega | (simp <;> omega) | (intros; omega), ?_⟩))
  (repeat (first | refine g1 ?_ | refine g2 ?_ | ((first | refine g3 ?_ | refine g4 ?_ | refine g5 ?_); try simp only [xq, simprocAttr]) | ((first | refine g6 ?_ | refine g7 ?_); simp only [xr, simprocAttr]; repeat (guard_target =~ _ ∧ _; refine ⟨by first | trivial | (unfold I64; omega) | omega | (simp <;> omega) | (intros; omega), ?_⟩))))
  refine awp_cond (by first | rfl | (simp only [xr, simprocAttr]; rfl)) (fun h0 => ?_) (fun h0 => ?_)
  · simp at h0; omega
  (repeat (first | refine g1 ?_ | refine g2 ?_ | ((first | refine g3 ?_ | refine g4 ?_ | refine g5 ?_); try simp only [xq, simprocAttr]) | ((first | refine g6 ?_ | refine g7 ?_); simp only [xr, simprocAttr]; repeat (guard_target =~ _ ∧ _; refine ⟨by first | trivial | (unfold I64; omega) | omega | (simp <;> omega) | (intros; omega), ?_⟩))))
  ((try refine Or.inl ?_); refine ⟨_, (hD), .inr (by and_intros <;> first | rfl | (simp; done)), ?_⟩; (try simp only [xr, simprocAttr]); repeat (guard_target =~ _ ∧ _; refine ⟨by first | trivial | (unfold I64; omega) | omega | (simp <;> omega) | (intros; omega), ?_⟩))
  (repeat (first | refine g1 ?_ | refine g2 ?_ | ((first | refine g3 ?_ | refine g4 ?_ | refine g5 ?_); try simp only [xq, simprocAttr]) | ((first | refine g6 ?_ | refine g7 ?_); simp only [xr, simprocAttr]; repeat (guard_target =~ _ ∧ _; refine ⟨by first | trivial | (unfold I64; omega) | omega | (simp <;> omega) | (intros; omega), ?_⟩))))
  ((try refine Or.inl ?_); refine ⟨_, (hI), .inr (by and_intros <;> first | rfl | (simp; done)), ?_⟩; (try simp only [xr, simprocAttr]); repeat (guard_target =~ _ ∧ _; refine ⟨by first | trivial | (unfold I64; omega) | omega | (simp <;> omega) | (intros; omega), ?_⟩))
  (repeat (first | refine g1 ?_ | refine g2 ?_ | ((first | refine g3 ?_ | refine g4 ?_ | refine g5 ?_); try simp only [xq, simprocAttr]) | ((first | refine g6 ?_ | refine g7 ?_); simp only [xr, simprocAttr]; repeat (guard_target =~ _ ∧ _; refine ⟨by first | trivial | (unfold I64; omega) | omega | (simp <;> omega) | (intros; omega), ?_⟩))))
  ((try refine Or.inl ?_); refine ⟨_, (hS), .inr (by and_intros <;> first | rfl | (simp; done)), ?_⟩; (try simp only [xr, simprocAttr]); repeat (guard_target =~ _ ∧ _; refine ⟨by first | trivial | (unfold I64; omega) | omega | (simp <;> omega) | (intros; omega), ?_⟩))
  (repeat (first | refine g1 ?_ | refine g2 ?_ | ((first | refine g3 ?_ | refine g4 ?_ | refine g5 ?_); try simp only [xq, simprocAttr]) | ((first | refine g6 ?_ | refine g7 ?_); simp only [xr, simprocAttr]; repeat (guard_target =~ _ ∧ _; refine ⟨by first | trivial | (unfold I64; omega) | omega | (simp <;> omega) | (intros; omega), ?_⟩))))
  ((try refine Or.inl ?_); refine ⟨_, (hcut), .inr (by and_intros <;> first | rfl | (simp; done)), ?_⟩; (try simp only [xr, simprocAttr]); repeat (guard_target =~ _ ∧ _; refine ⟨by first | trivial | (unfold I64; omega) | omega | (simp <;> omega) | (intros; omega), ?_⟩))
  ((try refine Or.inl ?_); refine ⟨_, (hD2), .inr (by and_intros <;> first | rfl | (simp; done)), ?_⟩; (try simp only [xr, simprocAttr]); repeat (guard_target =~ _ ∧ _; refine ⟨by first | trivial | (unfold I64; omega) | omega | (simp <;> omega) | (intros; omega), ?_⟩))
  (repeat (first | refine g1 ?_ | refine g2 ?_ | ((first | refine g3 ?_ | refine g4 ?_ | refine g5 ?_); try simp only [xq, simprocAttr]) | ((first | refine g6 ?_ | refine g7 ?_); simp only [xr, simprocAttr]; repeat (guard_target =~ _ ∧ _; refine ⟨by first | trivial | (unfold I64; omega) | omega | (simp <;> omega) | (intros; omega), ?_⟩))))
  ((try refine Or.inl ?_); refine ⟨_, (hC), .inr (by and_intros <;> first | rfl | (simp; done)), ?_⟩; (try simp only [xr, simprocAttr]); repeat (guard_target =~ _ ∧ _; refine ⟨by first | trivial | (unfold I64; omega) | omega | (simp <;> omega) | (intros; omega), ?_⟩))
  (repeat (first | refine g1 ?_ | refine g2 ?_ | ((first | refine g3 ?_ | refine g4 ?_ | refine g5 ?_); try simp only [xq, simprocAttr]) | ((first | refine g6 ?_ | refine g7 ?_); simp only [xr, simprocAttr]; repeat (guard_target =~ _ ∧ _; refine ⟨by first | trivial | (unfold I64; omega) | omega | (simp <;> omega) | (intros; omega), ?_⟩))))
  ((try refine Or.inl ?_); refine ⟨_, (hK), .inr (by and_intros <;> first | rfl | (simp; done)), ?_⟩; (try simp only [xr, simprocAttr]); repeat (guard_target =~ _ ∧ _; refine ⟨by first | trivial | (unfold I64; omega) | omega | (simp <;> omega) | (intros; omega), ?_⟩))
  (repeat (first | refine g1 ?_ | refine g2 ?_ | ((first | refine g3 ?_ | refine g4 ?_ | refine g5 ?_); try simp only [xq, simprocAttr]) | ((first | refine g6 ?_ | refine g7 ?_); simp only [xr, simprocAttr]; repeat (guard_target =~ _ ∧ _; refine ⟨by first | trivial | (unfold I64; omega) | omega | (simp <;> omega) | (intros; omega), ?_⟩))))
  ((try refine Or.inl ?_); refine ⟨_, (hE), .inr (by and_intros <;> first | rfl | (simp; done)), ?_⟩; (try simp only [xr, simprocAttr]); repeat (guard_target =~ _ ∧ _; refine ⟨by first | trivial | (unfold I64; omega) | omega | (simp <;> omega) | (intros; omega), ?_⟩))
  (repeat (first | refine g1 ?_ | refine g2 ?_ | ((first | refine g3 ?_ | refine g4 ?_ | refine g5 ?_); try simp only [xq, simprocAttr]) | ((first | refine g6 ?_ | refine g7 ?_); simp only [xr, simprocAttr]; repeat (guard_target =~ _ ∧ _; refine ⟨by first | trivial | (unfold I64; omega) | omega | (simp <;> omega) | (intros; omega), ?_⟩))))
  ((try refine Or.inl ?_); refine ⟨_, (hF), .inr (by and_intros <;> first | rfl | (simp; done)), ?_⟩; (try simp only [xr, simprocAttr]); repeat (guard_target =~ _ ∧ _; refine ⟨by first | trivial | (unfold I64; omega) | omega | (simp <;> omega) | (intros; omega), ?_⟩))
  (repeat (first | refine g1 ?_ | refine g2 ?_ | ((first | refine g3 ?_ | refine g4 ?_ | refine g5 ?_); try simp only [xq, simprocAttr]) | ((first | refine g6 ?_ | refine g7 ?_); simp only [xr, simprocAttr]; repeat (guard_target =~ _ ∧ _; refine ⟨by first | trivial | (unfold I64; omega) | omega | (simp <;> omega) | (intros; omega), ?_⟩))))
  ((try refine Or.inl ?_); refine ⟨_, (fun _ => vFracs_n), .inl rfl, ?_⟩; (try simp only [xr, simprocAttr]); repeat (guard_target =~ _ ∧ _; refine ⟨by first | trivial | (unfold I64; omega) | omega | (simp <;> omega) | (intros; omega), ?_⟩))
  (repeat (first | refine g1 ?_ | refine g2 ?_ | ((first | refine g3 ?_ | refine g4 ?_ | refine g5 ?_); try simp only [xq, simprocAttr]) | ((first | refine g6 ?_ | refine g7 ?_); simp only [xr, simprocAttr]; repeat (guard_target =~ _ ∧ _; refine ⟨by first | trivial | (unfold I64; omega) | omega | (simp <;> omega) | (intros; omega), ?_⟩))))
  refine awp_cond (by first | rfl | (simp only [xr, simprocAttr]; rfl)) (fun h1 => ?_) (fun h1 => ?_)
  · simp at h1
  (repeat (first | refine g1 ?_ | refine g2 ?_ | ((first | refine g3 ?_ | refine g4 ?_ | refine g5 ?_); try simp only [xq, simprocAttr]) | ((first | refine g6 ?_ | refine g7 ?_); simp only [xr, simprocAttr]; repeat (guard_target =~ _ ∧ _; refine ⟨by first | trivial | (unfold I64; omega) | omega | (simp <;> omega) | (intros; omega), ?_⟩))))
  refine awp_cond (by first | rfl | (simp only [xr, simprocAttr]; rfl)) (fun h2 => ?_) (fun h2 => ?_)
  · (repeat (first | refine g1 ?_ | refine g2 ?_ | ((first | refine g3 ?_ | refine g4 ?_ | refine g5 ?_); try simp only [xq, simprocAttr]) | ((first | refine g6 ?_ | refine g7 ?_); simp only [xr, simprocAttr]; repeat (guard_target =~ _ ∧ _; refine ⟨by first | trivial | (unfold I64; omega) | omega | (simp <;> omega) | (intros; omega), ?_⟩))))
    (simp only [xe, simprocAttr]; refine ⟨_, rfl, rfl, Imp.eq ?_⟩)
    rfl
  · simp at h2
end Go.Proofs.YtcidddfjimbkbaaGreat
/- The law on mixtures, on the machine: where a mixture's cost is told. Conditions: bytes are bytes. -/
set_option linter.all false
set_option linter.unusedSimpArgs false
set_option linter.unusedVariables false
namespace Go.Proofs.YtcidddfjimbkbaaGreat
open Go Go.RowKit Am

theorem costsV_at (m s : List (List Int)) (ns : List (List (List Int))) (x : Nat) (rs : List Int) : ∀ k j, j < k → (costsV m s ns x rs k).getD j 0 = costS m s (ns.getD j []) x rs
  | 0, j, h => by omega
  | k + 1, j, h => by
    have hl := costsV_len m s ns x rs k
    unfold costsV
    by_cases e : j = k
    · rw [getD_last (by omega), e]
    · rw [getD_app (by omega)]
      exact costsV_at m s ns x rs k j (by omega)
theorem sumTo_tk (xs : List Int) : ∀ n, sumTo (fun r => xs.getD r 0) n = (xs.take n).sum
  | 0 => by simp [sumTo]
  | n + 1 => by
    rw [sum_getD, ← sumTo_tk xs n]
    rfl
/-- the sum of the algorithms' shares is 1 -/
theorem ends_one {m s : List (List Int)} {ws : List Int} {ns : List (List (List Int))} {x : Nat} {rs : List Int} (h : MixOK m s ws ns) (hm : m.length ≤ 4) (hx : x < m.length) (hq : reqsB s.length rs) : Does Tryz.prog 17 [.sl (.k 2 (mstM m ws ns x rs))] (.imm (.tup [frT (1, 1), blT true])) := by
  have hW := h.sum
  have hsum := endW_sum h hx hq ns.length (Nat.le_refl _)
  have hws : sumTo (fun j => ws.getD j 0) ns.length = ws.sum := by
    rw [sumTo_tk, ← h.len, List.take_length]
  rw [hws] at hsum
  have hbd : ∀ w ∈ endW m ws ns x rs ns.length, 0 ≤ w ∧ w ≤ 9 * 4 := fun w hw => by
    unfold endW at hw
    obtain ⟨y, _, rfl⟩ := List.mem_map.1 hw
    have h1 := endF_bd h (x := x) (rs := rs) (y := y) ns.length (Nat.le_refl _)
    have h2 := h.hi
    omega
  have hlen := endW_len m ws ns x rs ns.length
  have hone : mkFr (endW m ws ns x rs ns.length).sum ws.sum = (1, 1) := by
    rw [hsum]
    have e : mkFr ws.sum ws.sum = mkFr 1 1 := (fr_cross (by omega) (by decide) (by omega)).2
    rw [e]
    decide +kernel
  have hp := sumFracs_f ws.sum (by omega) (by omega) ((endW m ws ns x rs ns.length).map fun w => mkFr w ws.sum) (endW m ws ns x rs ns.length) (by rw [List.length_map]) (by omega) (fun k hk => by
    rw [getD_in (by rw [List.length_map]; exact hk), List.getElem_map, getD_in hk]
    have hb := hbd _ (List.getElem_mem hk)
    exact isFr_mk (by omega) (ok_small (by omega) (by omega) (by omega) (by omega))) (fun k hk => by
    have := sum_bounds (xs := (endW m ws ns x rs ns.length).take k) (B := 36) fun w hw => by have := hbd w (List.mem_of_mem_take hw); omega
    have hl : ((endW m ws ns x rs ns.length).take k).length ≤ 4 := by rw [List.length_take]; omega
    omega)
  rw [hone] at hp
  have e : ((endW m ws ns x rs ns.length).map fun w => mkFr w ws.sum).map frL = mstM m ws ns x rs := by
    unfold mstM
    rw [List.map_map, Int.toNat_natCast]
    rfl
  rw [e] at hp
  exact hp
set_option maxRecDepth 20000 in
set_option maxHeartbeats 4000000 in
theorem walkM_good {bs : List Int} {m s : List (List Int)} {w : List Int} {X : List (List (List Int))} {q t : List (List Int)} {v : List Int} {Y : List (List (List Int))} {x0 : Int} {rs : List Int} (hsm : ¬ 65536 < (bs.length : Int)) (hD : Does Tryz.prog 6 [.lf (.b (.raw bs))] (.imm (mxA m s w X))) (hD2 : Does Tryz.prog 9 [.lf (.b (.raw (cutB bs 1)))] (.imm (mxB q t v Y x0 rs))) (hb : mstB q t v Y x0 rs = true) : Does Tryz.prog 3 [.lf (.b (.raw bs))] (.imm (.bool true)) := by
  have hI := impl_IsMixture_d m s w X
  have hS := spec_IsMixture_d m s w X
  have hC := impl_MixtureCost_d q t v Y x0 rs
  have hK := spec_MixtureCost_d q t v Y x0 rs
  have hE := impl_MixtureStates_i q t v Y x0 rs hb
  have hF := spec_MixtureStates_d q t v Y x0 rs
  have hEl := mstM_ok hb
  have hb' : (takesB q t x0 rs && mixB q t v Y 4) = true := hb
  have hcut := vCut_d (bs := bs) (by omega) (n := 1) (by omega)
  simp only [frIf] at hC hK
  rw [hb'] at hC hK
  rw [hb] at hF
  rw [Bool.and_eq_true] at hb'
  have ht := hb'.1
  obtain ⟨hp, ⟨x, rfl, hx⟩, hq, hl⟩ := takes_ok ht
  have h := mix_ok hb'.2
  have hpl := prob_len hp
  have hW := h.sum
  have hlen := h.len
  have hhi := h.hi
  have hbd := mixedS_bd h hp hx hq hl Y.length (Nat.le_refl _)
  have hmk : mkOk (mixCostN q t v Y x rs) v.sum = true := ok_small (by omega) (by omega) (by unfold mixCostN; rw [Int.toNat_natCast]; omega) (by unfold mixCostN; rw [Int.toNat_natCast]; omega)
  rw [hmk] at hC hK
  have hfr := isFr_mk (n := mixCostN q t v Y x rs) (d := v.sum) (by omega) hmk
  have hmc : mixCostN q t v Y x rs = mixedS q t v Y x rs Y.length := by unfold mixCostN; rw [Int.toNat_natCast]
  have hge := mixed_ge h hp hx hq Y.length (Nat.le_refl _)
  rw [sumTo_tk, ← hlen, List.take_length, hlen] at hge
  have hone := ends_one h hpl.2.1 hx hq
  have hV := vAlgs_h ht h hp hx hq hl
  have hL := leastCost_x ht hp hx hq hl
  have hsv := vSum_d v (by omega) fun k => by
    by_cases hk : k < Y.length
    · have := h.w k hk; omega
    · rw [List.getD_eq_getElem?_getD, List.getElem?_eq_none (by omega)]; simp
  have hstep := fun k hk => mix_step h hp hx hq hl (k := k) hk
  have hat := fun k hk => costsV_at q t Y x rs Y.length k hk
  have hcl := costsV_len q t Y x rs Y.length
  simp only [if_true, Bool.true_and] at hC hK hF
  generalize mkFr (mixCostN q t v Y x rs) v.sum = F at hC hK hfr
  have f1 := hfr.eq
  have f2 := hfr.bd
  rw [hmc] at f1
  generalize mstM q v Y x rs = E at hE hF hone hEl
  generalize costsV q t Y x rs Y.length = cs at hV hat hcl
  generalize (probB m s && mixB m s w X 4) = i1 at hI hS
  generalize probB m s = i2 at hI hS
  have hob := leastM_bd (workM_ok hp hx hq (by omega) rs.length (Nat.le_refl _)) (q.length - 1) (by omega)
  rw [List.take_length, show leastM (workM q t x rs) (q.length - 1) = optM q t x rs from rfl] at hob
  generalize optM q t x rs = o at hL hge hob
  have hden : 0 ≤ F.2 ∧ F.2 ≤ 100000 := ⟨Int.le_trans (by decide) f2.1, f2.2.1⟩
  have hfin : o * F.2 ≤ F.1 := by
    have h1 : v.sum * o * F.2 ≤ mixedS q t v Y x rs Y.length * F.2 := Int.mul_le_mul_of_nonneg_right hge hden.1
    rw [← f1] at h1
    have h2 : v.sum * (o * F.2) ≤ v.sum * F.1 := by
      rw [← Int.mul_assoc, Int.mul_comm v.sum F.1]
      exact h1
    exact Int.le_of_mul_le_mul_left h2 (by omega)
  have p1 : 0 ≤ mixedS q t v Y x rs Y.length * F.2 := Int.mul_nonneg hbd.1 hden.1
  have p2 : mixedS q t v Y x rs Y.length * F.2 ≤ 400000 * 100000 := Int.mul_le_mul (by omega) hden.2 hden.1 (by decide)
  have p3 : 0 ≤ o * F.2 := Int.mul_nonneg hob.1 hden.1
  have p4 : o * F.2 ≤ 10000 * 100000 := Int.mul_le_mul (by omega) hden.2 hden.1 (by decide)
  refine spec_imm Tryz.func3 rfl Tryz.ntmps3 cfOK (fun _ _ => by kernel_rfl) rfl (Nat.le_of_ble_eq_true rfl) ?_
  intro M0 w0
  rw [Tryz.results3]
  (repeat (first | refine g1 ?_ | refine g2 ?_ | ((first | refine g3 ?_ | refine g4 ?_ | refine g5 ?_); try simp only [xq, simprocAttr]) | ((first | refine g6 ?_ | refine g7 ?_); simp only [xr, simprocAttr]; repeat (guard_target =~ _ ∧ _; refine ⟨by first | trivial | (unfold I64; omega) | omega | (simp <;> omega) | (intros; omega), ?_⟩))))
  ((try refine Or.inl ?_); refine ⟨_, (vBig_d bs), .inl rfl, ?_⟩; (try simp only [xr, simprocAttr]); repeat (guard_target =~ _ ∧ _; refine ⟨by first | trivial | (unfold I64; omega) | omega | (simp <;> omega) | (intros; omega), ?_⟩))
  (repeat (first | refine g1 ?_ | refine g2 ?_ | ((first | refine g3 ?_ | refine g4 ?_ | refine g5 ?_); try simp only [xq, simprocAttr]) | ((first | refine g6 ?_ | refine g7 ?_); simp only [xr, simprocAttr]; repeat (guard_target =~ _ ∧ _; refine ⟨by first | trivial | (unfold I64; omega) | omega | (simp <;> omega) | (intros; omega), ?_⟩))))
  refine awp_cond (by first | rfl | (simp only [xr, simprocAttr]; rfl)) (fun h0 => ?_) (fun h0 => ?_)
  · simp at h0; omega
  (repeat (first | refine g1 ?_ | refine g2 ?_ | ((first | refine g3 ?_ | refine g4 ?_ | refine g5 ?_); try simp only [xq, simprocAttr]) | ((first | refine g6 ?_ | refine g7 ?_); simp only [xr, simprocAttr]; repeat (guard_target =~ _ ∧ _; refine ⟨by first | trivial | (unfold I64; omega) | omega | (simp <;> omega) | (intros; omega), ?_⟩))))
  ((try refine Or.inl ?_); refine ⟨_, (hD), .inr (by and_intros <;> first | rfl | (simp; done)), ?_⟩; (try simp only [xr, simprocAttr]); repeat (guard_target =~ _ ∧ _; refine ⟨by first | trivial | (unfold I64; omega) | omega | (simp <;> omega) | (intros; omega), ?_⟩))
  (repeat (first | refine g1 ?_ | refine g2 ?_ | ((first | refine g3 ?_ | refine g4 ?_ | refine g5 ?_); try simp only [xq, simprocAttr]) | ((first | refine g6 ?_ | refine g7 ?_); simp only [xr, simprocAttr]; repeat (guard_target =~ _ ∧ _; refine ⟨by first | trivial | (unfold I64; omega) | omega | (simp <;> omega) | (intros; omega), ?_⟩))))
  ((try refine Or.inl ?_); refine ⟨_, (hI), .inr (by and_intros <;> first | rfl | (simp; done)), ?_⟩; (try simp only [xr, simprocAttr]); repeat (guard_target =~ _ ∧ _; refine ⟨by first | trivial | (unfold I64; omega) | omega | (simp <;> omega) | (intros; omega), ?_⟩))
  (repeat (first | refine g1 ?_ | refine g2 ?_ | ((first | refine g3 ?_ | refine g4 ?_ | refine g5 ?_); try simp only [xq, simprocAttr]) | ((first | refine g6 ?_ | refine g7 ?_); simp only [xr, simprocAttr]; repeat (guard_target =~ _ ∧ _; refine ⟨by first | trivial | (unfold I64; omega) | omega | (simp <;> omega) | (intros; omega), ?_⟩))))
  ((try refine Or.inl ?_); refine ⟨_, (hS), .inr (by and_intros <;> first | rfl | (simp; done)), ?_⟩; (try simp only [xr, simprocAttr]); repeat (guard_target =~ _ ∧ _; refine ⟨by first | trivial | (unfold I64; omega) | omega | (simp <;> omega) | (intros; omega), ?_⟩))
  (repeat (first | refine g1 ?_ | refine g2 ?_ | ((first | refine g3 ?_ | refine g4 ?_ | refine g5 ?_); try simp only [xq, simprocAttr]) | ((first | refine g6 ?_ | refine g7 ?_); simp only [xr, simprocAttr]; repeat (guard_target =~ _ ∧ _; refine ⟨by first | trivial | (unfold I64; omega) | omega | (simp <;> omega) | (intros; omega), ?_⟩))))
  ((try refine Or.inl ?_); refine ⟨_, (hcut), .inr (by and_intros <;> first | rfl | (simp; done)), ?_⟩; (try simp only [xr, simprocAttr]); repeat (guard_target =~ _ ∧ _; refine ⟨by first | trivial | (unfold I64; omega) | omega | (simp <;> omega) | (intros; omega), ?_⟩))
  ((try refine Or.inl ?_); refine ⟨_, (hD2), .inr (by and_intros <;> first | rfl | (simp; done)), ?_⟩; (try simp only [xr, simprocAttr]); repeat (guard_target =~ _ ∧ _; refine ⟨by first | trivial | (unfold I64; omega) | omega | (simp <;> omega) | (intros; omega), ?_⟩))
  (repeat (first | refine g1 ?_ | refine g2 ?_ | ((first | refine g3 ?_ | refine g4 ?_ | refine g5 ?_); try simp only [xq, simprocAttr]) | ((first | refine g6 ?_ | refine g7 ?_); simp only [xr, simprocAttr]; repeat (guard_target =~ _ ∧ _; refine ⟨by first | trivial | (unfold I64; omega) | omega | (simp <;> omega) | (intros; omega), ?_⟩))))
  ((try refine Or.inl ?_); refine ⟨_, (hC), .inr (by and_intros <;> first | rfl | (simp; done)), ?_⟩; (try simp only [xr, simprocAttr]); repeat (guard_target =~ _ ∧ _; refine ⟨by first | trivial | (unfold I64; omega) | omega | (simp <;> omega) | (intros; omega), ?_⟩))
  (repeat (first | refine g1 ?_ | refine g2 ?_ | ((first | refine g3 ?_ | refine g4 ?_ | refine g5 ?_); try simp only [xq, simprocAttr]) | ((first | refine g6 ?_ | refine g7 ?_); simp only [xr, simprocAttr]; repeat (guard_target =~ _ ∧ _; refine ⟨by first | trivial | (unfold I64; omega) | omega | (simp <;> omega) | (intros; omega), ?_⟩))))
  ((try refine Or.inl ?_); refine ⟨_, (hK), .inr (by and_intros <;> first | rfl | (simp; done)), ?_⟩; (try simp only [xr, simprocAttr]); repeat (guard_target =~ _ ∧ _; refine ⟨by first | trivial | (unfold I64; omega) | omega | (simp <;> omega) | (intros; omega), ?_⟩))
  (repeat (first | refine g1 ?_ | refine g2 ?_ | ((first | refine g3 ?_ | refine g4 ?_ | refine g5 ?_); try simp only [xq, simprocAttr]) | ((first | refine g6 ?_ | refine g7 ?_); simp only [xr, simprocAttr]; repeat (guard_target =~ _ ∧ _; refine ⟨by first | trivial | (unfold I64; omega) | omega | (simp <;> omega) | (intros; omega), ?_⟩))))
  ((try refine Or.inl ?_); refine ⟨_, (hE), .inr (by and_intros <;> first | rfl | (simp; done)), ?_⟩; (try simp only [xr, simprocAttr]); repeat (guard_target =~ _ ∧ _; refine ⟨by first | trivial | (unfold I64; omega) | omega | (simp <;> omega) | (intros; omega), ?_⟩))
  (repeat (first | refine g1 ?_ | refine g2 ?_ | ((first | refine g3 ?_ | refine g4 ?_ | refine g5 ?_); try simp only [xq, simprocAttr]) | ((first | refine g6 ?_ | refine g7 ?_); simp only [xr, simprocAttr]; repeat (guard_target =~ _ ∧ _; refine ⟨by first | trivial | (unfold I64; omega) | omega | (simp <;> omega) | (intros; omega), ?_⟩))))
  ((try refine Or.inl ?_); refine ⟨_, (hF), .inr (by and_intros <;> first | rfl | (simp; done)), ?_⟩; (try simp only [xr, simprocAttr]); repeat (guard_target =~ _ ∧ _; refine ⟨by first | trivial | (unfold I64; omega) | omega | (simp <;> omega) | (intros; omega), ?_⟩))
  (repeat (first | refine g1 ?_ | refine g2 ?_ | ((first | refine g3 ?_ | refine g4 ?_ | refine g5 ?_); try simp only [xq, simprocAttr]) | ((first | refine g6 ?_ | refine g7 ?_); simp only [xr, simprocAttr]; repeat (guard_target =~ _ ∧ _; refine ⟨by first | trivial | (unfold I64; omega) | omega | (simp <;> omega) | (intros; omega), ?_⟩))))
  ((try refine Or.inl ?_); refine ⟨_, (fun _ => vFracs_s E hEl.2), .inl rfl, ?_⟩; (try simp only [xr, simprocAttr]); repeat (guard_target =~ _ ∧ _; refine ⟨by first | trivial | (unfold I64; omega) | omega | (simp <;> omega) | (intros; omega), ?_⟩))
  (repeat (first | refine g1 ?_ | refine g2 ?_ | ((first | refine g3 ?_ | refine g4 ?_ | refine g5 ?_); try simp only [xq, simprocAttr]) | ((first | refine g6 ?_ | refine g7 ?_); simp only [xr, simprocAttr]; repeat (guard_target =~ _ ∧ _; refine ⟨by first | trivial | (unfold I64; omega) | omega | (simp <;> omega) | (intros; omega), ?_⟩))))
  refine awp_cond (by first | rfl | (simp only [xr, simprocAttr]; rfl)) (fun h1 => ?_) (fun h1 => ?_)
  · simp at h1
  (repeat (first | refine g1 ?_ | refine g2 ?_ | ((first | refine g3 ?_ | refine g4 ?_ | refine g5 ?_); try simp only [xq, simprocAttr]) | ((first | refine g6 ?_ | refine g7 ?_); simp only [xr, simprocAttr]; repeat (guard_target =~ _ ∧ _; refine ⟨by first | trivial | (unfold I64; omega) | omega | (simp <;> omega) | (intros; omega), ?_⟩))))
  refine awp_cond (by first | rfl | (simp only [xr, simprocAttr]; rfl)) (fun h2 => ?_) (fun h2 => ?_)
  · simp at h2
  (repeat (first | refine g1 ?_ | refine g2 ?_ | ((first | refine g3 ?_ | refine g4 ?_ | refine g5 ?_); try simp only [xq, simprocAttr]) | ((first | refine g6 ?_ | refine g7 ?_); simp only [xr, simprocAttr]; repeat (guard_target =~ _ ∧ _; refine ⟨by first | trivial | (unfold I64; omega) | omega | (simp <;> omega) | (intros; omega), ?_⟩))))
  (refine .inr (.inl (callW_b (hV) rfl rfl rfl rfl rfl rfl rfl ?_)); (try simp only [xr, simprocAttr]); repeat (guard_target =~ _ ∧ _; refine ⟨by first | trivial | (unfold I64; omega) | omega | (simp <;> omega) | (intros; omega), ?_⟩))
  (repeat (first | refine g1 ?_ | refine g2 ?_ | ((first | refine g3 ?_ | refine g4 ?_ | refine g5 ?_); try simp only [xq, simprocAttr]) | ((first | refine g6 ?_ | refine g7 ?_); simp only [xr, simprocAttr]; repeat (guard_target =~ _ ∧ _; refine ⟨by first | trivial | (unfold I64; omega) | omega | (simp <;> omega) | (intros; omega), ?_⟩))))
  refine awp_rounds (α := Nat) (fun k => [(23, true, .int k), (22, true, .int (mixedS q t v Y x rs k))]) [9, 10, 11, 12, 13, 17, 21] (fun _ => [.box [.b (.sl (.ii m)), .b (.sl (.ii s))], .box [.b (.sl (.ints w)), .b (.sl (.iii X))], .box [.b (.sl (.ii q)), .b (.sl (.ii t))], .box [.b (.sl (.ints v)), .b (.sl (.iii Y))], .box [.b (.val (.int .i64 F.1)), .b (.val (.int .i64 F.2))], .box [.b (.val (.int .i64 F.1)), .b (.val (.int .i64 F.2))], .row 3 (.ints cs)]) (fun k => k ≤ Y.length) (fun k => Y.length - k) 0 (by ((try simp only [xk]); (repeat (refine leK_cons ?_ ?_; first | (focus (first | rfl | (simp only [xr, simprocAttr]; done) | (simp only [xr, simprocAttr]; refine int_eq1 ?_; first | trivial | (unfold I64; omega) | omega | (simp <;> omega) | (intros; omega)))) | rotate_left)); (try exact leK_nil rfl); (all_goals (try (simp only [xr, simprocAttr]; try refine int_eq1 ?_))))) (Nat.zero_le _) fun k hk => ?_
  simp only [xr, simprocAttr]
  (repeat (first | refine g1 ?_ | refine g2 ?_ | ((first | refine g3 ?_ | refine g4 ?_ | refine g5 ?_); try simp only [xq, simprocAttr]) | ((first | refine g6 ?_ | refine g7 ?_); simp only [xr, simprocAttr]; repeat (guard_target =~ _ ∧ _; refine ⟨by first | trivial | (unfold I64; omega) | omega | (simp <;> omega) | (intros; omega), ?_⟩))))
  refine awp_cond (by first | rfl | (simp only [xr, simprocAttr]; rfl)) (fun h3 => ?_) (fun h3 => ?_)
  · have h3 := of_decide_eq_true h3
    have hk' : k < Y.length := by omega
    have hs := hstep k hk'
    rw [← hat k hk'] at hs
    obtain ⟨e1, e2, e3, e4, e5⟩ := hs
    (repeat (first | refine g1 ?_ | refine g2 ?_ | ((first | refine g3 ?_ | refine g4 ?_ | refine g5 ?_); try simp only [xq, simprocAttr]) | ((first | refine g6 ?_ | refine g7 ?_); simp only [xr, simprocAttr]; repeat (guard_target =~ _ ∧ _; refine ⟨by first | trivial | (unfold I64; omega) | omega | (simp <;> omega) | (intros; omega), ?_⟩))))
    refine ⟨k + 1, by omega, by omega, .inl ?_⟩
    ((try simp only [xk]); (repeat (refine leK_cons ?_ ?_; first | (focus (first | rfl | (simp only [xr, simprocAttr]; done) | (simp only [xr, simprocAttr]; refine int_eq1 ?_; first | trivial | (unfold I64; omega) | omega | (simp <;> omega) | (intros; omega)))) | rotate_left)); (try exact leK_nil rfl); (all_goals (try (simp only [xr, simprocAttr]; try refine int_eq1 ?_))))
  have h3 := of_decide_eq_false h3
  obtain rfl : k = Y.length := by omega
  (repeat (first | refine g1 ?_ | refine g2 ?_ | ((first | refine g3 ?_ | refine g4 ?_ | refine g5 ?_); try simp only [xq, simprocAttr]) | ((first | refine g6 ?_ | refine g7 ?_); simp only [xr, simprocAttr]; repeat (guard_target =~ _ ∧ _; refine ⟨by first | trivial | (unfold I64; omega) | omega | (simp <;> omega) | (intros; omega), ?_⟩))))
  ((try refine Or.inl ?_); refine ⟨_, (hone), .inr (by and_intros <;> first | rfl | (simp; done)), ?_⟩; (try simp only [xr, simprocAttr]); repeat (guard_target =~ _ ∧ _; refine ⟨by first | trivial | (unfold I64; omega) | omega | (simp <;> omega) | (intros; omega), ?_⟩))
  (repeat (first | refine g1 ?_ | refine g2 ?_ | ((first | refine g3 ?_ | refine g4 ?_ | refine g5 ?_); try simp only [xq, simprocAttr]) | ((first | refine g6 ?_ | refine g7 ?_); simp only [xr, simprocAttr]; repeat (guard_target =~ _ ∧ _; refine ⟨by first | trivial | (unfold I64; omega) | omega | (simp <;> omega) | (intros; omega), ?_⟩))))
  ((try refine Or.inl ?_); refine ⟨_, (hL), .inr (by and_intros <;> first | rfl | (simp; done)), ?_⟩; (try simp only [xr, simprocAttr]); repeat (guard_target =~ _ ∧ _; refine ⟨by first | trivial | (unfold I64; omega) | omega | (simp <;> omega) | (intros; omega), ?_⟩))
  (repeat (first | refine g1 ?_ | refine g2 ?_ | ((first | refine g3 ?_ | refine g4 ?_ | refine g5 ?_); try simp only [xq, simprocAttr]) | ((first | refine g6 ?_ | refine g7 ?_); simp only [xr, simprocAttr]; repeat (guard_target =~ _ ∧ _; refine ⟨by first | trivial | (unfold I64; omega) | omega | (simp <;> omega) | (intros; omega), ?_⟩))))
  ((try refine Or.inl ?_); refine ⟨_, (hsv), .inl rfl, ?_⟩; (try simp only [xr, simprocAttr]); repeat (guard_target =~ _ ∧ _; refine ⟨by first | trivial | (unfold I64; omega) | omega | (simp <;> omega) | (intros; omega), ?_⟩))
  (repeat (first | refine g1 ?_ | refine g2 ?_ | ((first | refine g3 ?_ | refine g4 ?_ | refine g5 ?_); try simp only [xq, simprocAttr]) | ((first | refine g6 ?_ | refine g7 ?_); simp only [xr, simprocAttr]; repeat (guard_target =~ _ ∧ _; refine ⟨by first | trivial | (unfold I64; omega) | omega | (simp <;> omega) | (intros; omega), ?_⟩))))
  (simp only [xe, simprocAttr]; refine ⟨_, rfl, rfl, Imp.eq ?_⟩)
  simp [f1, hfin]
end Go.Proofs.YtcidddfjimbkbaaGreat
