/- The program's least cost by independent draws, on the machine. Conditions: none. -/
import Derived.Test.YtoaecbdpkmeenaaFreeS
import Derived.Test.YtoaecbdpkmeenaaDrawn
namespace Go.Proofs.Ytoaecbdpkmeenaa
open Go Go.RowKit Am

theorem rep_range {α : Type} (n : Nat) (x : α) : List.replicate n x = (List.range n).map fun _ => x := by
  refine List.ext_getElem? fun j => ?_
  rw [List.getElem?_map, List.getElem?_replicate]
  by_cases h : j < n
  · rw [if_pos h, List.getElem?_range h]; rfl
  · rw [if_neg h, List.getElem?_eq_none (by simpa using h)]; rfl
/-- the least of f over a list -/
def accM (f : Nat → Int) (l : List Int) : Int := l.foldl (fun a y => min a (f y.toNat)) 1152921504606846976
theorem accM_take {f : Nat → Int} {l : List Int} {t : Nat} (h : t < l.length) : accM f (l.take (t + 1)) = min (accM f (l.take t)) (f (l.getD t 0).toNat) := by
  unfold accM
  rw [take_getD h 0, List.foldl_append]
  rfl
theorem accM_srv (s : List (List Int)) (f : Nat → Int) (r : Nat) : ∀ n, accM f (srv s n r) = minTo (fun y => decide (0 ≤ at2 s r y)) f n
  | 0 => rfl
  | n + 1 => by
    rw [srv_step, minTo]
    by_cases h : 0 ≤ at2 s r n
    · rw [if_pos h, if_pos (decide_eq_true h), ← accM_srv s f r n]
      unfold accM
      rw [List.foldl_append]
      simp
    · rw [if_neg h, if_neg (by simpa using h), ← accM_srv s f r n]
theorem srv_mem {s : List (List Int)} {n r : Nat} {t : Nat} (h : t < (srv s n r).length) : ∃ y : Nat, (srv s n r).getD t 0 = y ∧ y < n ∧ 0 ≤ at2 s r y := by
  rw [getD_in h]
  have hm := List.getElem_mem h
  unfold srv at hm ⊢
  rw [List.mem_map] at hm
  obtain ⟨y, hy, e⟩ := hm
  rw [List.mem_filter] at hy
  exact ⟨y, e.symm, by simpa using hy.1, by simpa using hy.2⟩
theorem accM_bd {m s : List (List Int)} {ws : List Int} (hp : probB m s = true) (hw : WsOK s ws) {k : Nat} (hk : k ≤ 3) {x r : Nat} (hx : x < m.length) (hr : r < s.length) {l : List Int} (hl : ∀ y ∈ l, ∃ z : Nat, y = z ∧ z < m.length ∧ 0 ≤ at2 s r z) : 0 ≤ accM (offer m s ws k x r) l ∧ accM (offer m s ws k x r) l ≤ 1152921504606846976 := by
  unfold accM
  suffices h : ∀ (l : List Int) (a : Int), (∀ y ∈ l, ∃ z : Nat, y = z ∧ z < m.length ∧ 0 ≤ at2 s r z) → 0 ≤ a ∧ a ≤ 1152921504606846976 → 0 ≤ l.foldl (fun a y => min a (offer m s ws k x r y.toNat)) a ∧ l.foldl (fun a y => min a (offer m s ws k x r y.toNat)) a ≤ 1152921504606846976 from h l _ hl (by omega)
  intro l
  induction l with
  | nil => intro a _ ha; exact ha
  | cons y l ih =>
    intro a hl ha
    obtain ⟨z, rfl, hz, hs⟩ := hl y (by simp)
    have := offer_bd hp hw (freeM_bd hp hw k hk) hx hr hz hs
    exact ih _ (fun y hy => hl y (by simp [hy])) (by simp only [Int.toNat_natCast]; omega)
def indB (m s : List (List Int)) (x : Int) (ws : List Int) (n : Int) : Bool := takesB m s x [] && rng n 0 3 && (ws.length == s.length) && allIn 0 9 ws && !(ws.sum == 0)
theorem ind4 {a b c d : Bool} (h : (!bif bif bif !a then true else !b then true else !c then true else !d) = true) : a = true ∧ b = true ∧ c = true ∧ d = true := by
  revert h
  cases a <;> cases b <;> cases c <;> cases d <;> decide
theorem ind5 {a b c d e : Bool} (h : (bif bif bif bif !a then true else !b then true else !c then true else !d then true else e) = false) : a = true ∧ b = true ∧ c = true ∧ d = true ∧ e = false := by
  revert h
  cases a <;> cases b <;> cases c <;> cases d <;> cases e <;> decide
theorem ind5_no {a b c d e : Bool} (h : (bif bif bif bif !a then true else !b then true else !c then true else !d then true else e) = true) : (a && b && c && d && !e) = false := by
  revert h
  cases a <;> cases b <;> cases c <;> cases d <;> cases e <;> decide
theorem indFits {m s : List (List Int)} {x : Int} {ws : List Int} {b : Bool} (hh : (!bif bif bif !takesB m s x [] then true else !b then true else !decide ((ws.length : Int) = s.length) then true else !allIn 0 9 ws) = true) : SumFits ws := by
  obtain ⟨h1, -, h3, h4⟩ := ind4 hh
  have h5 := prob_len (takes_ok h1).1
  have h3 := of_decide_eq_true h3
  exact sumFits_of (B := 9) (allIn_iff.1 h4) (by omega) (by omega)
def partF (m s : List (List Int)) (ws : List Int) (k x r : Nat) : Int := ws.getD r 0 * minTo (fun y => decide (0 ≤ at2 s r y)) (offer m s ws k x r) m.length
theorem partF_bd {m s : List (List Int)} {ws : List Int} (hp : probB m s = true) (hw : WsOK s ws) {k : Nat} (hk : k < 3) {x : Nat} (hx : x < m.length) {r : Nat} (hr : r < s.length) : 0 ≤ partF m s ws k x r ∧ partF m s ws k x r ≤ 400000000 := by
  obtain ⟨b1, b2, b3⟩ := bndF_le (k := k) (by omega)
  obtain ⟨e1, e2, e3⟩ := least_ok hp hw (k := k) (by omega) hx hr
  have a := hw.at hr
  have h1 := Int.mul_nonneg a.1 e2
  have h2 := Int.mul_le_mul a.2 e3 e2 (by omega)
  unfold partF
  omega
theorem partS_bd {m s : List (List Int)} {ws : List Int} (hp : probB m s = true) (hw : WsOK s ws) {k : Nat} (hk : k < 3) {x : Nat} (hx : x < m.length) : ∀ r, r ≤ s.length → 0 ≤ sumTo (partF m s ws k x) r ∧ sumTo (partF m s ws k x) r ≤ 400000000 * r
  | 0, _ => ⟨Int.le_refl _, Int.le_refl _⟩
  | r + 1, hr => by
    have h1 := partS_bd hp hw hk hx r (by omega)
    have h2 := partF_bd hp hw hk hx (show r < s.length by omega)
    simp only [sumTo]
    omega
/-- the sums so far: those before x are done, that of x has r requests -/
def stepRow (m s : List (List Int)) (ws : List Int) (k x r : Nat) : List Int := (List.range m.length).map fun j => if j < x then freeM m s ws (k + 1) j else if j = x then sumTo (partF m s ws k x) r else 0
theorem stepRow_len (m s : List (List Int)) (ws : List Int) (k x r : Nat) : (stepRow m s ws k x r).length = m.length := by simp [stepRow]
theorem stepRow_at {m s : List (List Int)} {ws : List Int} {k x r : Nat} (h : x < m.length) : (stepRow m s ws k x r).getD x 0 = sumTo (partF m s ws k x) r := by
  unfold stepRow
  rw [rangeMap_getD _ _ h, if_neg (Nat.lt_irrefl _), if_pos rfl]
theorem stepRow_set {m s : List (List Int)} {ws : List Int} {k x r : Nat} : (stepRow m s ws k x r).set x (sumTo (partF m s ws k x) r + partF m s ws k x r) = stepRow m s ws k x (r + 1) := by
  unfold stepRow
  rw [rangeMap_set]
  refine rangeMap_congr fun j _ => ?_
  by_cases e : j = x
  · subst e
    simp [sumTo]
  · simp [e]
theorem stepRow_first {m s : List (List Int)} {ws : List Int} {k : Nat} : (List.range m.length).map (fun _ => (0 : Int)) = stepRow m s ws k 0 0 := by
  refine rangeMap_congr fun j _ => ?_
  simp [sumTo]
theorem stepRow_next {m s : List (List Int)} {ws : List Int} {k x : Nat} : stepRow m s ws k x s.length = stepRow m s ws k (x + 1) 0 := by
  refine rangeMap_congr fun j _ => ?_
  by_cases e : j = x
  · subst e
    rw [if_neg (Nat.lt_irrefl _), if_pos rfl, if_pos (by omega)]
    rfl
  · by_cases h : j < x
    · rw [if_pos h, if_pos (by omega)]
    · rw [if_neg h, if_neg e, if_neg (by omega)]
      simp [sumTo]
theorem stepRow_all {m s : List (List Int)} {ws : List Int} {k : Nat} : stepRow m s ws k m.length 0 = (List.range m.length).map fun x => freeM m s ws (k + 1) x := by
  refine rangeMap_congr fun j hj => ?_
  rw [if_pos hj]
theorem indFitsS {m s : List (List Int)} {x : Int} {ws : List Int} (hh : (!bif bif !takesB m s x [] then true else !decide ((ws.length : Int) = s.length) then true else !allIn 0 9 ws) = true) : SumFits ws := by
  have h : takesB m s x [] = true ∧ decide ((ws.length : Int) = s.length) = true ∧ allIn 0 9 ws = true := by
    revert hh
    cases takesB m s x [] <;> cases decide ((ws.length : Int) = s.length) <;> cases allIn 0 9 ws <;> decide
  obtain ⟨h1, h3, h4⟩ := h
  have h5 := prob_len (takes_ok h1).1
  have h3 := of_decide_eq_true h3
  exact sumFits_of (B := 9) (allIn_iff.1 h4) (by omega) (by omega)
theorem indS {a b c d e : Bool} (h : (bif bif bif bif !a then true else !b then true else !c then true else d then true else !e) = false) : a = true ∧ b = true ∧ c = true ∧ d = false ∧ e = true := by
  revert h
  cases a <;> cases b <;> cases c <;> cases d <;> cases e <;> decide
theorem indS_no {a b c d e : Bool} (h : (bif bif bif bif !a then true else !b then true else !c then true else d then true else !e) = true) : (a && b && c && !d && e) = false := by
  revert h
  cases a <;> cases b <;> cases c <;> cases d <;> cases e <;> decide
theorem dec_beq (a b : Int) : decide (a = b) = (a == b) := by rw [Bool.eq_iff_iff, decide_eq_true_eq, beq_iff_eq]
abbrev sumsC (m s : List (List Int)) (ws : List Int) (k : Nat) : List Int := (List.range m.length).map fun x => freeM m s ws k x
set_option maxHeartbeats 2000000 in
theorem impl_IndependentBest_d (m s : List (List Int)) (x : Int) (ws : List Int) (n : Int) :
    Does Try.prog 25 [prA m s, .int x, .sl (.ints ws), .int n] (.imm (frIf (indB m s x ws n) (freeM m s ws n.toNat x.toNat) (ws.sum ^ n.toNat))) := by
  refine spec_imm Try.func25 rfl Try.ntmps25 cfOK (fun _ _ => by kernel_rfl) rfl (Nat.le_of_ble_eq_true rfl) ?_
  intro M0 w0
  rw [Try.results25]
  (refine awp_fits 0 rfl fun hf0 => ?_; simp only [xp, simprocAttr] at hf0; simp only [xf, simprocAttr] at hf0)
  (refine awp_fits 2 rfl fun hf2 => ?_; simp only [xp, simprocAttr] at hf2; simp only [xf, simprocAttr] at hf2)
  (repeat (first | refine awp_seq ?_ | refine awp_block ?_ | ((first | refine awp_skip ?_ | refine awp_exit ?_); try simp only [xq, simprocAttr]) | (refine awp_ret ?_; try simp only [xq, simprocAttr]) | ((first | refine awp_reg ?_ | refine awp_anyR (by rfl) (by kernel_rfl) (by kernel_rfl) ?_); simp only [xr, simprocAttr]; repeat (guard_target =~ _ ∧ _; refine And.intro (by first | trivial | (unfold I64; omega) | omega | (refine ⟨?_, ?_⟩ <;> omega) | (simp; done) | (simp; omega) | (intros; omega)) ?_))))
  ((first | refine .inl ⟨_, (isStarted_n _ _ _), .inl rfl, ?_⟩ | refine ⟨_, (isStarted_n _ _ _), .inl rfl, ?_⟩); (try simp only [xr, simprocAttr]); repeat (guard_target =~ _ ∧ _; refine And.intro (by first | trivial | (unfold I64; omega) | omega | (refine ⟨?_, ?_⟩ <;> omega) | (simp; done) | (simp; omega) | (intros; omega)) ?_))
  (repeat (first | refine awp_seq ?_ | refine awp_block ?_ | ((first | refine awp_skip ?_ | refine awp_exit ?_); try simp only [xq, simprocAttr]) | (refine awp_ret ?_; try simp only [xq, simprocAttr]) | ((first | refine awp_reg ?_ | refine awp_anyR (by rfl) (by kernel_rfl) (by kernel_rfl) ?_); simp only [xr, simprocAttr]; repeat (guard_target =~ _ ∧ _; refine And.intro (by first | trivial | (unfold I64; omega) | omega | (refine ⟨?_, ?_⟩ <;> omega) | (simp; done) | (simp; omega) | (intros; omega)) ?_))))
  ((first | refine .inl ⟨_, (fun _ => within_d _ _ _), .inl rfl, ?_⟩ | refine ⟨_, (fun _ => within_d _ _ _), .inl rfl, ?_⟩); (try simp only [xr, simprocAttr]); repeat (guard_target =~ _ ∧ _; refine And.intro (by first | trivial | (unfold I64; omega) | omega | (refine ⟨?_, ?_⟩ <;> omega) | (simp; done) | (simp; omega) | (intros; omega)) ?_))
  (repeat (first | refine awp_seq ?_ | refine awp_block ?_ | ((first | refine awp_skip ?_ | refine awp_exit ?_); try simp only [xq, simprocAttr]) | (refine awp_ret ?_; try simp only [xq, simprocAttr]) | ((first | refine awp_reg ?_ | refine awp_anyR (by rfl) (by kernel_rfl) (by kernel_rfl) ?_); simp only [xr, simprocAttr]; repeat (guard_target =~ _ ∧ _; refine And.intro (by first | trivial | (unfold I64; omega) | omega | (refine ⟨?_, ?_⟩ <;> omega) | (simp; done) | (simp; omega) | (intros; omega)) ?_))))
  ((first | refine .inl ⟨_, (fun _ => areWeights_d _ _), .inl rfl, ?_⟩ | refine ⟨_, (fun _ => areWeights_d _ _), .inl rfl, ?_⟩); (try simp only [xr, simprocAttr]); repeat (guard_target =~ _ ∧ _; refine And.intro (by first | trivial | (unfold I64; omega) | omega | (refine ⟨?_, ?_⟩ <;> omega) | (simp; done) | (simp; omega) | (intros; omega)) ?_))
  (repeat (first | refine awp_seq ?_ | refine awp_block ?_ | ((first | refine awp_skip ?_ | refine awp_exit ?_); try simp only [xq, simprocAttr]) | (refine awp_ret ?_; try simp only [xq, simprocAttr]) | ((first | refine awp_reg ?_ | refine awp_anyR (by rfl) (by kernel_rfl) (by kernel_rfl) ?_); simp only [xr, simprocAttr]; repeat (guard_target =~ _ ∧ _; refine And.intro (by first | trivial | (unfold I64; omega) | omega | (refine ⟨?_, ?_⟩ <;> omega) | (simp; done) | (simp; omega) | (intros; omega)) ?_))))
  ((first | refine .inl ⟨_, (fun hh => total_d ws (indFits hh)), .inl rfl, ?_⟩ | refine ⟨_, (fun hh => total_d ws (indFits hh)), .inl rfl, ?_⟩); (try simp only [xr, simprocAttr]); repeat (guard_target =~ _ ∧ _; refine And.intro (by first | trivial | (unfold I64; omega) | omega | (refine ⟨?_, ?_⟩ <;> omega) | (simp; done) | (simp; omega) | (intros; omega)) ?_))
  (repeat (first | refine awp_seq ?_ | refine awp_block ?_ | ((first | refine awp_skip ?_ | refine awp_exit ?_); try simp only [xq, simprocAttr]) | (refine awp_ret ?_; try simp only [xq, simprocAttr]) | ((first | refine awp_reg ?_ | refine awp_anyR (by rfl) (by kernel_rfl) (by kernel_rfl) ?_); simp only [xr, simprocAttr]; repeat (guard_target =~ _ ∧ _; refine And.intro (by first | trivial | (unfold I64; omega) | omega | (refine ⟨?_, ?_⟩ <;> omega) | (simp; done) | (simp; omega) | (intros; omega)) ?_))))
  have hdef : indB m s x ws n = (takesB m s x [] && rng n 0 3 && decide ((ws.length : Int) = s.length) && allIn 0 9 ws && !decide (ws.sum = 0)) := by unfold indB; rw [dec_len, dec_beq]
  refine awp_cond (by first | rfl | (simp only [xr, simprocAttr]; rfl)) (fun hc => ?_) (fun hc => ?_)
  · have hc' := ind5_no hc
    (repeat (first | refine awp_seq ?_ | refine awp_block ?_ | ((first | refine awp_skip ?_ | refine awp_exit ?_); try simp only [xq, simprocAttr]) | (refine awp_ret ?_; try simp only [xq, simprocAttr]) | ((first | refine awp_reg ?_ | refine awp_anyR (by rfl) (by kernel_rfl) (by kernel_rfl) ?_); simp only [xr, simprocAttr]; repeat (guard_target =~ _ ∧ _; refine And.intro (by first | trivial | (unfold I64; omega) | omega | (refine ⟨?_, ?_⟩ <;> omega) | (simp; done) | (simp; omega) | (intros; omega)) ?_))))
    (simp only [xec, simprocAttr]; refine ⟨[_, _], ⟨⟨by simp only [xr, simprocAttr] <;> (and_intros <;> first | trivial | (unfold I64; omega) | omega | (refine ⟨?_, ?_⟩ <;> omega) | (simp; done) | (simp; omega) | (intros; omega)), rfl⟩, rfl, trivial⟩, rfl, Imp.eq ?_⟩)
    rw [hdef, hc']
    rfl
  · have hc0 := ind5 hc
    have hyes : indB m s x ws n = true := by rw [hdef, hc0.1, hc0.2.1, hc0.2.2.1, hc0.2.2.2.1, hc0.2.2.2.2]; rfl
    obtain ⟨c1, c2, c3, c4, c5⟩ := hc0
    obtain ⟨hp, ⟨y, rfl, hy⟩, -, -⟩ := takes_ok c1
    have c2 := rng_iff.1 c2
    have c3 := of_decide_eq_true c3
    have c5 := of_decide_eq_false c5
    obtain ⟨N, rfl⟩ := Int.eq_ofNat_of_zero_le c2.1
    have hw : WsOK s ws := ⟨by omega, allIn_iff.1 c4⟩
    obtain ⟨w1, w2⟩ := hw.sum hp
    have hpl := prob_len hp
    have hfit : SumFits ws := sumFits_of (B := 9) (allIn_iff.1 c4) (by omega) (by omega)
    have hpw := fun k => pow_bd w1 w2 k
    have hfb := fun k (hk : k ≤ 3) => freeM_bd hp hw k hk
    have hbF := fun k (hk : k ≤ 3) => bndF_le hk
    have hrow := prob_rows hp
    have hwl := hw.len
    (repeat (first | refine awp_seq ?_ | refine awp_block ?_ | ((first | refine awp_skip ?_ | refine awp_exit ?_); try simp only [xq, simprocAttr]) | (refine awp_ret ?_; try simp only [xq, simprocAttr]) | ((first | refine awp_reg ?_ | refine awp_anyR (by rfl) (by kernel_rfl) (by kernel_rfl) ?_); simp only [xr, simprocAttr]; repeat (guard_target =~ _ ∧ _; refine And.intro (by first | trivial | (unfold I64; omega) | omega | (refine ⟨?_, ?_⟩ <;> omega) | (simp; done) | (simp; omega) | (intros; omega)) ?_))))
    rw [rep_range]
    (refine awp_frz 2 rfl ?_; simp only [xz, simprocAttr])
    refine awp_rounds (α := Nat) (fun k => [(52, true, .int k), (10, true, .sl (.ints (sumsC m s ws k))), (11, true, .int (ws.sum ^ k))]) [1, 2, 4, 8, 9, 51] (fun _ => [.box [.b (.sl (.ii m)), .b (.sl (.ii s))], .box [.b (.val (.int .i64 0)), .b (.val (.int .i64 0))], .gone]) (fun k => k ≤ N) (fun k => N - k) 0 (by ((try simp only [xk]); (repeat (refine leK_cons ?_ ?_; first | (focus (first | rfl | (simp only [xr, simprocAttr]; done) | (simp only [xr, simprocAttr]; refine int_eq1 ?_; first | trivial | (unfold I64; omega) | omega | (refine ⟨?_, ?_⟩ <;> omega) | (simp; done) | (simp; omega) | (intros; omega)))) | rotate_left)); (try exact leK_nil rfl); (all_goals (try (simp only [xr, simprocAttr]; try refine int_eq1 ?_))))) (Nat.zero_le _) fun k hk => ?_
    obtain ⟨b1, b2, b3⟩ := hbF k (by omega)
    obtain ⟨p1, p2⟩ := hpw k
    have hfk := hfb k (by omega)
    have hlenC : (sumsC m s ws k).length = m.length := by simp
    simp only [xr, simprocAttr]
    (repeat (first | refine awp_seq ?_ | refine awp_block ?_ | ((first | refine awp_skip ?_ | refine awp_exit ?_); try simp only [xq, simprocAttr]) | (refine awp_ret ?_; try simp only [xq, simprocAttr]) | ((first | refine awp_reg ?_ | refine awp_anyR (by rfl) (by kernel_rfl) (by kernel_rfl) ?_); simp only [xr, simprocAttr]; repeat (guard_target =~ _ ∧ _; refine And.intro (by first | trivial | (unfold I64; omega) | omega | (refine ⟨?_, ?_⟩ <;> omega) | (simp; done) | (simp; omega) | (intros; omega)) ?_))))
    refine awp_cond (by first | rfl | (simp only [xr, simprocAttr]; rfl)) (fun hd => ?_) (fun hd => ?_)
    · have hd := of_decide_eq_true hd
      have hkN : k < N := by omega
      (repeat (first | refine awp_seq ?_ | refine awp_block ?_ | ((first | refine awp_skip ?_ | refine awp_exit ?_); try simp only [xq, simprocAttr]) | (refine awp_ret ?_; try simp only [xq, simprocAttr]) | ((first | refine awp_reg ?_ | refine awp_anyR (by rfl) (by kernel_rfl) (by kernel_rfl) ?_); simp only [xr, simprocAttr]; repeat (guard_target =~ _ ∧ _; refine And.intro (by first | trivial | (unfold I64; omega) | omega | (refine ⟨?_, ?_⟩ <;> omega) | (simp; done) | (simp; omega) | (intros; omega)) ?_))))
      rw [rep_range]
      refine awp_rounds (α := Nat) (fun x => [(59, true, .int x)]) [1, 2, 4, 8, 9, 10, 11, 12, 51, 52, 58] (fun x => [.box [.b (.sl (.ii m)), .b (.sl (.ii s))], .box [.b (.val (.int .i64 0)), .b (.val (.int .i64 0))], .gone, .row 3 (.ints (stepRow m s ws k x 0))]) (fun x => x ≤ m.length) (fun x => m.length - x) 0 (by ((try simp only [xk]); (repeat (refine leK_cons ?_ ?_; first | (focus (first | rfl | (simp only [xr, simprocAttr]; done) | (simp only [xr, simprocAttr]; refine int_eq1 ?_; first | trivial | (unfold I64; omega) | omega | (refine ⟨?_, ?_⟩ <;> omega) | (simp; done) | (simp; omega) | (intros; omega)))) | rotate_left)); (refine leK_nil ?_; exact (by rw [stepRow_first])); (all_goals (try (simp only [xr, simprocAttr]; try refine int_eq1 ?_))))) (Nat.zero_le _) fun x hx => ?_
      have hl3 := stepRow_len m s ws k x 0
      simp only [xr, simprocAttr]
      (repeat (first | refine awp_seq ?_ | refine awp_block ?_ | ((first | refine awp_skip ?_ | refine awp_exit ?_); try simp only [xq, simprocAttr]) | (refine awp_ret ?_; try simp only [xq, simprocAttr]) | ((first | refine awp_reg ?_ | refine awp_anyR (by rfl) (by kernel_rfl) (by kernel_rfl) ?_); simp only [xr, simprocAttr]; repeat (guard_target =~ _ ∧ _; refine And.intro (by first | trivial | (unfold I64; omega) | omega | (refine ⟨?_, ?_⟩ <;> omega) | (simp; done) | (simp; omega) | (intros; omega)) ?_))))
      refine awp_cond (by first | rfl | (simp only [xr, simprocAttr]; rfl)) (fun he => ?_) (fun he => ?_)
      · have he := of_decide_eq_true he
        have hxm : x < m.length := by omega
        (repeat (first | refine awp_seq ?_ | refine awp_block ?_ | ((first | refine awp_skip ?_ | refine awp_exit ?_); try simp only [xq, simprocAttr]) | (refine awp_ret ?_; try simp only [xq, simprocAttr]) | ((first | refine awp_reg ?_ | refine awp_anyR (by rfl) (by kernel_rfl) (by kernel_rfl) ?_); simp only [xr, simprocAttr]; repeat (guard_target =~ _ ∧ _; refine And.intro (by first | trivial | (unfold I64; omega) | omega | (refine ⟨?_, ?_⟩ <;> omega) | (simp; done) | (simp; omega) | (intros; omega)) ?_))))
        refine awp_rounds (α := Nat) (fun r => [(64, true, .int r)]) [1, 2, 4, 8, 9, 10, 11, 12, 13, 51, 52, 58, 59, 62, 63] (fun r => [.box [.b (.sl (.ii m)), .b (.sl (.ii s))], .box [.b (.val (.int .i64 0)), .b (.val (.int .i64 0))], .gone, .row 3 (.ints (stepRow m s ws k x r))]) (fun r => r ≤ s.length) (fun r => s.length - r) 0 (by ((try simp only [xk]); (repeat (refine leK_cons ?_ ?_; first | (focus (first | rfl | (simp only [xr, simprocAttr]; done) | (simp only [xr, simprocAttr]; refine int_eq1 ?_; first | trivial | (unfold I64; omega) | omega | (refine ⟨?_, ?_⟩ <;> omega) | (simp; done) | (simp; omega) | (intros; omega)))) | rotate_left)); (try exact leK_nil rfl); (all_goals (try (simp only [xr, simprocAttr]; try refine int_eq1 ?_))))) (Nat.zero_le _) fun r hr => ?_
        have hl4 := stepRow_len m s ws k x r
        simp only [xr, simprocAttr]
        (repeat (first | refine awp_seq ?_ | refine awp_block ?_ | ((first | refine awp_skip ?_ | refine awp_exit ?_); try simp only [xq, simprocAttr]) | (refine awp_ret ?_; try simp only [xq, simprocAttr]) | ((first | refine awp_reg ?_ | refine awp_anyR (by rfl) (by kernel_rfl) (by kernel_rfl) ?_); simp only [xr, simprocAttr]; repeat (guard_target =~ _ ∧ _; refine And.intro (by first | trivial | (unfold I64; omega) | omega | (refine ⟨?_, ?_⟩ <;> omega) | (simp; done) | (simp; omega) | (intros; omega)) ?_))))
        refine awp_cond (by first | rfl | (simp only [xr, simprocAttr]; rfl)) (fun hg => ?_) (fun hg => ?_)
        · have hg := of_decide_eq_true hg
          have hrs : r < s.length := by omega
          have har := hw.at hrs
          have hro := hrow r hrs
          (repeat (first | refine awp_seq ?_ | refine awp_block ?_ | ((first | refine awp_skip ?_ | refine awp_exit ?_); try simp only [xq, simprocAttr]) | (refine awp_ret ?_; try simp only [xq, simprocAttr]) | ((first | refine awp_reg ?_ | refine awp_anyR (by rfl) (by kernel_rfl) (by kernel_rfl) ?_); simp only [xr, simprocAttr]; repeat (guard_target =~ _ ∧ _; refine And.intro (by first | trivial | (unfold I64; omega) | omega | (refine ⟨?_, ?_⟩ <;> omega) | (simp; done) | (simp; omega) | (intros; omega)) ?_))))
          ((first | refine .inl ⟨_, (served_d m s r hrs hro (by omega)), .inr (by and_intros <;> first | rfl | (simp; done)), ?_⟩ | refine ⟨_, (served_d m s r hrs hro (by omega)), .inr (by and_intros <;> first | rfl | (simp; done)), ?_⟩); (try simp only [xr, simprocAttr]); repeat (guard_target =~ _ ∧ _; refine And.intro (by first | trivial | (unfold I64; omega) | omega | (refine ⟨?_, ?_⟩ <;> omega) | (simp; done) | (simp; omega) | (intros; omega)) ?_))
          (repeat (first | refine awp_seq ?_ | refine awp_block ?_ | ((first | refine awp_skip ?_ | refine awp_exit ?_); try simp only [xq, simprocAttr]) | (refine awp_ret ?_; try simp only [xq, simprocAttr]) | ((first | refine awp_reg ?_ | refine awp_anyR (by rfl) (by kernel_rfl) (by kernel_rfl) ?_); simp only [xr, simprocAttr]; repeat (guard_target =~ _ ∧ _; refine And.intro (by first | trivial | (unfold I64; omega) | omega | (refine ⟨?_, ?_⟩ <;> omega) | (simp; done) | (simp; omega) | (intros; omega)) ?_))))
          refine awp_rounds (α := Nat) (fun t => [(73, true, .int t), (16, true, .int (accM (offer m s ws k x r) ((srv s m.length r).take t)))]) [1, 2, 4, 8, 9, 10, 11, 12, 13, 14, 15, 51, 52, 58, 59, 62, 63, 64, 71, 72] (fun t => [.box [.b (.sl (.ii m)), .b (.sl (.ii s))], .box [.b (.val (.int .i64 0)), .b (.val (.int .i64 0))], .gone, .row 3 (.ints (stepRow m s ws k x r))]) (fun t => t ≤ (srv s m.length r).length) (fun t => (srv s m.length r).length - t) 0 (by ((try simp only [xk]); (repeat (refine leK_cons ?_ ?_; first | (focus (first | rfl | (simp only [xr, simprocAttr]; done) | (simp only [xr, simprocAttr]; refine int_eq1 ?_; first | trivial | (unfold I64; omega) | omega | (refine ⟨?_, ?_⟩ <;> omega) | (simp; done) | (simp; omega) | (intros; omega)))) | rotate_left)); (try exact leK_nil rfl); (all_goals (try (simp only [xr, simprocAttr]; try refine int_eq1 ?_))))) (Nat.zero_le _) fun t ht => ?_
          have hsl := srv_len s m.length r
          simp only [xr, simprocAttr]
          (repeat (first | refine awp_seq ?_ | refine awp_block ?_ | ((first | refine awp_skip ?_ | refine awp_exit ?_); try simp only [xq, simprocAttr]) | (refine awp_ret ?_; try simp only [xq, simprocAttr]) | ((first | refine awp_reg ?_ | refine awp_anyR (by rfl) (by kernel_rfl) (by kernel_rfl) ?_); simp only [xr, simprocAttr]; repeat (guard_target =~ _ ∧ _; refine And.intro (by first | trivial | (unfold I64; omega) | omega | (refine ⟨?_, ?_⟩ <;> omega) | (simp; done) | (simp; omega) | (intros; omega)) ?_))))
          refine awp_cond (by first | rfl | (simp only [xr, simprocAttr]; rfl)) (fun hq => ?_) (fun hq => ?_)
          · have hq := of_decide_eq_true hq
            have htl : t < (srv s m.length r).length := by omega
            obtain ⟨z, hz1, hz2, hz3⟩ := srv_mem htl
            have hof := offer_bd hp hw hfk hxm hrs hz2 hz3
            have hfz := hfk z hz2
            have hd1 := (prob_m hp hxm).2 z hz2
            have hd2 := prob_s hp hrs z hz2
            have hcz : (sumsC m s ws k).getD z 0 = freeM m s ws k z := rangeMap_getD _ _ hz2
            have hpr : 0 ≤ ws.sum ^ k * (at2 m x z + at2 s r z) := Int.mul_nonneg p1 (by omega)
            have hst := accM_take (f := offer m s ws k x r) htl
            rw [hz1, Int.toNat_natCast] at hst
            have hoe : offer m s ws k x r z = ws.sum ^ k * (at2 m x z + at2 s r z) + freeM m s ws k z := rfl
            (repeat (first | refine awp_seq ?_ | refine awp_block ?_ | ((first | refine awp_skip ?_ | refine awp_exit ?_); try simp only [xq, simprocAttr]) | (refine awp_ret ?_; try simp only [xq, simprocAttr]) | ((first | refine awp_reg ?_ | refine awp_anyR (by rfl) (by kernel_rfl) (by kernel_rfl) ?_); simp only [xr, simprocAttr]; repeat (guard_target =~ _ ∧ _; refine And.intro (by first | trivial | (unfold I64; omega) | omega | (refine ⟨?_, ?_⟩ <;> omega) | (simp; done) | (simp; omega) | (intros; omega)) ?_))))
            ((first | refine .inl ⟨_, (cost_i m s x z r _ _ _ rfl hz1 rfl hp hxm hz2 hrs), .inl rfl, ?_⟩ | refine ⟨_, (cost_i m s x z r _ _ _ rfl hz1 rfl hp hxm hz2 hrs), .inl rfl, ?_⟩); (try simp only [xr, simprocAttr]); repeat (guard_target =~ _ ∧ _; refine And.intro (by first | trivial | (unfold I64; omega) | omega | (refine ⟨?_, ?_⟩ <;> omega) | (simp; done) | (simp; omega) | (intros; omega)) ?_))
            rw [hz1]
            simp only [xr, simprocAttr]
            rw [hcz]
            (repeat (guard_target =~ _ ∧ _; refine And.intro (by first | trivial | (unfold I64; omega) | omega | (refine ⟨?_, ?_⟩ <;> omega) | (simp; done) | (simp; omega) | (intros; omega)) ?_))
            (repeat (first | refine awp_seq ?_ | refine awp_block ?_ | ((first | refine awp_skip ?_ | refine awp_exit ?_); try simp only [xq, simprocAttr]) | (refine awp_ret ?_; try simp only [xq, simprocAttr]) | ((first | refine awp_reg ?_ | refine awp_anyR (by rfl) (by kernel_rfl) (by kernel_rfl) ?_); simp only [xr, simprocAttr]; repeat (guard_target =~ _ ∧ _; refine And.intro (by first | trivial | (unfold I64; omega) | omega | (refine ⟨?_, ?_⟩ <;> omega) | (simp; done) | (simp; omega) | (intros; omega)) ?_))))
            refine ⟨t + 1, by omega, by omega, .inl ?_⟩
            ((try simp only [xk]); (repeat (refine leK_cons ?_ ?_; first | (focus (first | rfl | (simp only [xr, simprocAttr]; done) | (simp only [xr, simprocAttr]; refine int_eq1 ?_; first | trivial | (unfold I64; omega) | omega | (refine ⟨?_, ?_⟩ <;> omega) | (simp; done) | (simp; omega) | (intros; omega)))) | rotate_left)); (try exact leK_nil rfl); (all_goals (try (simp only [xr, simprocAttr]; try refine int_eq1 ?_))))
          · have hq := of_decide_eq_false hq
            have htl : t = (srv s m.length r).length := by omega
            subst htl
            have hF1 := partF_bd hp hw (show k < 3 by omega) hxm hrs
            have hF2 := partS_bd hp hw (show k < 3 by omega) hxm r (by omega)
            have hat := stepRow_at (s := s) (ws := ws) (k := k) (r := r) hxm
            rw [List.take_length, accM_srv]
            have hpf : ws.getD r 0 * minTo (fun y => decide (0 ≤ at2 s r y)) (offer m s ws k x r) m.length = partF m s ws k x r := rfl
            (repeat (first | refine awp_seq ?_ | refine awp_block ?_ | ((first | refine awp_skip ?_ | refine awp_exit ?_); try simp only [xq, simprocAttr]) | (refine awp_ret ?_; try simp only [xq, simprocAttr]) | ((first | refine awp_reg ?_ | refine awp_anyR (by rfl) (by kernel_rfl) (by kernel_rfl) ?_); simp only [xr, simprocAttr]; repeat (guard_target =~ _ ∧ _; refine And.intro (by first | trivial | (unfold I64; omega) | omega | (refine ⟨?_, ?_⟩ <;> omega) | (simp; done) | (simp; omega) | (intros; omega)) ?_))))
            rw [hat, hpf, stepRow_set]
            refine ⟨r + 1, by omega, by omega, .inl ?_⟩
            ((try simp only [xk]); (repeat (refine leK_cons ?_ ?_; first | (focus (first | rfl | (simp only [xr, simprocAttr]; done) | (simp only [xr, simprocAttr]; refine int_eq1 ?_; first | trivial | (unfold I64; omega) | omega | (refine ⟨?_, ?_⟩ <;> omega) | (simp; done) | (simp; omega) | (intros; omega)))) | rotate_left)); (try exact leK_nil rfl); (all_goals (try (simp only [xr, simprocAttr]; try refine int_eq1 ?_))))
        · have hg := of_decide_eq_false hg
          have hrs : r = s.length := by omega
          subst hrs
          (repeat (first | refine awp_seq ?_ | refine awp_block ?_ | ((first | refine awp_skip ?_ | refine awp_exit ?_); try simp only [xq, simprocAttr]) | (refine awp_ret ?_; try simp only [xq, simprocAttr]) | ((first | refine awp_reg ?_ | refine awp_anyR (by rfl) (by kernel_rfl) (by kernel_rfl) ?_); simp only [xr, simprocAttr]; repeat (guard_target =~ _ ∧ _; refine And.intro (by first | trivial | (unfold I64; omega) | omega | (refine ⟨?_, ?_⟩ <;> omega) | (simp; done) | (simp; omega) | (intros; omega)) ?_))))
          refine ⟨x + 1, by omega, by omega, .inl ?_⟩
          ((try simp only [xk]); (repeat (refine leK_cons ?_ ?_; first | (focus (first | rfl | (simp only [xr, simprocAttr]; done) | (simp only [xr, simprocAttr]; refine int_eq1 ?_; first | trivial | (unfold I64; omega) | omega | (refine ⟨?_, ?_⟩ <;> omega) | (simp; done) | (simp; omega) | (intros; omega)))) | rotate_left)); (refine leK_nil ?_; exact (by rw [stepRow_next])); (all_goals (try (simp only [xr, simprocAttr]; try refine int_eq1 ?_))))
      · have he := of_decide_eq_false he
        have hxm : x = m.length := by omega
        subst hxm
        rw [stepRow_all]
        (repeat (first | refine awp_seq ?_ | refine awp_block ?_ | ((first | refine awp_skip ?_ | refine awp_exit ?_); try simp only [xq, simprocAttr])))
        (refine awp_frz 3 rfl ?_; simp only [xz, simprocAttr])
        have hpk := hpw (k + 1)
        have hpe : ws.sum ^ (k + 1) = ws.sum ^ k * ws.sum := Int.pow_succ ..
        have hb4 := hbF (k + 1) (by omega)
        (repeat (first | refine awp_seq ?_ | refine awp_block ?_ | ((first | refine awp_skip ?_ | refine awp_exit ?_); try simp only [xq, simprocAttr]) | (refine awp_ret ?_; try simp only [xq, simprocAttr]) | ((first | refine awp_reg ?_ | refine awp_anyR (by rfl) (by kernel_rfl) (by kernel_rfl) ?_); simp only [xr, simprocAttr]; repeat (guard_target =~ _ ∧ _; refine And.intro (by first | trivial | (unfold I64; omega) | omega | (refine ⟨?_, ?_⟩ <;> omega) | (simp; done) | (simp; omega) | (intros; omega)) ?_))))
        ((first | refine .inl ⟨_, (total_d ws hfit), .inl rfl, ?_⟩ | refine ⟨_, (total_d ws hfit), .inl rfl, ?_⟩); (try simp only [xr, simprocAttr]); repeat (guard_target =~ _ ∧ _; refine And.intro (by first | trivial | (unfold I64; omega) | omega | (refine ⟨?_, ?_⟩ <;> omega) | (simp; done) | (simp; omega) | (intros; omega)) ?_))
        (repeat (first | refine awp_seq ?_ | refine awp_block ?_ | ((first | refine awp_skip ?_ | refine awp_exit ?_); try simp only [xq, simprocAttr]) | (refine awp_ret ?_; try simp only [xq, simprocAttr]) | ((first | refine awp_reg ?_ | refine awp_anyR (by rfl) (by kernel_rfl) (by kernel_rfl) ?_); simp only [xr, simprocAttr]; repeat (guard_target =~ _ ∧ _; refine And.intro (by first | trivial | (unfold I64; omega) | omega | (refine ⟨?_, ?_⟩ <;> omega) | (simp; done) | (simp; omega) | (intros; omega)) ?_))))
        refine ⟨k + 1, by omega, by omega, .inr ⟨3, Nat.le_of_ble_eq_true rfl, leT_of ?_ rfl rfl rfl⟩⟩
        ((try simp only [xk]); (repeat (refine leK_cons ?_ ?_; first | (focus (first | rfl | (simp only [xr, simprocAttr]; done) | (simp only [xr, simprocAttr]; refine int_eq1 ?_; first | trivial | (unfold I64; omega) | omega | (refine ⟨?_, ?_⟩ <;> omega) | (simp; done) | (simp; omega) | (intros; omega)))) | rotate_left)); (try exact leK_nil rfl); (all_goals (try (simp only [xr, simprocAttr]; try refine int_eq1 ?_))))
    · have hd := of_decide_eq_false hd
      have hkN : k = N := by omega
      subst hkN
      have hyk := hfk y hy
      have hpos : 0 < ws.sum ^ k := Int.pow_pos (by omega)
      (repeat (first | refine awp_seq ?_ | refine awp_block ?_ | ((first | refine awp_skip ?_ | refine awp_exit ?_); try simp only [xq, simprocAttr]) | (refine awp_ret ?_; try simp only [xq, simprocAttr]) | ((first | refine awp_reg ?_ | refine awp_anyR (by rfl) (by kernel_rfl) (by kernel_rfl) ?_); simp only [xr, simprocAttr]; repeat (guard_target =~ _ ∧ _; refine And.intro (by first | trivial | (unfold I64; omega) | omega | (refine ⟨?_, ?_⟩ <;> omega) | (simp; done) | (simp; omega) | (intros; omega)) ?_))))
      rw [show (sumsC m s ws k).getD y 0 = freeM m s ws k y from rangeMap_getD _ _ hy]
      ((first | refine .inl ⟨_, (makeFrac_d _ _ (by omega) (by omega) (by omega) (by omega)), .inl rfl, ?_⟩ | refine ⟨_, (makeFrac_d _ _ (by omega) (by omega) (by omega) (by omega)), .inl rfl, ?_⟩); (try simp only [xr, simprocAttr]); repeat (guard_target =~ _ ∧ _; refine And.intro (by first | trivial | (unfold I64; omega) | omega | (refine ⟨?_, ?_⟩ <;> omega) | (simp; done) | (simp; omega) | (intros; omega)) ?_))
      (repeat (first | refine awp_seq ?_ | refine awp_block ?_ | ((first | refine awp_skip ?_ | refine awp_exit ?_); try simp only [xq, simprocAttr]) | (refine awp_ret ?_; try simp only [xq, simprocAttr]) | ((first | refine awp_reg ?_ | refine awp_anyR (by rfl) (by kernel_rfl) (by kernel_rfl) ?_); simp only [xr, simprocAttr]; repeat (guard_target =~ _ ∧ _; refine And.intro (by first | trivial | (unfold I64; omega) | omega | (refine ⟨?_, ?_⟩ <;> omega) | (simp; done) | (simp; omega) | (intros; omega)) ?_))))
      (simp only [xec, simprocAttr]; refine ⟨[_, _], ⟨⟨by simp only [xr, simprocAttr] <;> (and_intros <;> first | trivial | (unfold I64; omega) | omega | (refine ⟨?_, ?_⟩ <;> omega) | (simp; done) | (simp; omega) | (intros; omega)), rfl⟩, rfl, trivial⟩, rfl, Imp.eq ?_⟩)
      rw [hyes]
      rfl
theorem spec_IndependentBest_d (m s : List (List Int)) (x : Int) (ws : List Int) (n : Int) :
    Does Try.prog 23 [prA m s, .int x, .sl (.ints ws), .int n] (.imm (frIf (indB m s x ws n) (freeM m s ws n.toNat x.toNat) (ws.sum ^ n.toNat))) := by
  refine spec_imm Try.func23 rfl Try.ntmps23 cfOK (fun _ _ => by kernel_rfl) rfl (Nat.le_of_ble_eq_true rfl) ?_
  intro M0 w0
  rw [Try.results23]
  (refine awp_fits 0 rfl fun hf0 => ?_; simp only [xp, simprocAttr] at hf0; simp only [xf, simprocAttr] at hf0)
  (refine awp_fits 2 rfl fun hf2 => ?_; simp only [xp, simprocAttr] at hf2; simp only [xf, simprocAttr] at hf2)
  (repeat (first | refine awp_seq ?_ | refine awp_block ?_ | ((first | refine awp_skip ?_ | refine awp_exit ?_); try simp only [xq, simprocAttr]) | (refine awp_ret ?_; try simp only [xq, simprocAttr]) | ((first | refine awp_reg ?_ | refine awp_anyR (by rfl) (by kernel_rfl) (by kernel_rfl) ?_); simp only [xr, simprocAttr]; repeat (guard_target =~ _ ∧ _; refine And.intro (by first | trivial | (unfold I64; omega) | omega | (refine ⟨?_, ?_⟩ <;> omega) | (simp; done) | (simp; omega) | (intros; omega)) ?_))))
  ((first | refine .inl ⟨_, (l8Takes_d _ _ _ _), .inl rfl, ?_⟩ | refine ⟨_, (l8Takes_d _ _ _ _), .inl rfl, ?_⟩); (try simp only [xr, simprocAttr]); repeat (guard_target =~ _ ∧ _; refine And.intro (by first | trivial | (unfold I64; omega) | omega | (refine ⟨?_, ?_⟩ <;> omega) | (simp; done) | (simp; omega) | (intros; omega)) ?_))
  (repeat (first | refine awp_seq ?_ | refine awp_block ?_ | ((first | refine awp_skip ?_ | refine awp_exit ?_); try simp only [xq, simprocAttr]) | (refine awp_ret ?_; try simp only [xq, simprocAttr]) | ((first | refine awp_reg ?_ | refine awp_anyR (by rfl) (by kernel_rfl) (by kernel_rfl) ?_); simp only [xr, simprocAttr]; repeat (guard_target =~ _ ∧ _; refine And.intro (by first | trivial | (unfold I64; omega) | omega | (refine ⟨?_, ?_⟩ <;> omega) | (simp; done) | (simp; omega) | (intros; omega)) ?_))))
  ((first | refine .inl ⟨_, (fun _ => l11Weights_d _ _), .inl rfl, ?_⟩ | refine ⟨_, (fun _ => l11Weights_d _ _), .inl rfl, ?_⟩); (try simp only [xr, simprocAttr]); repeat (guard_target =~ _ ∧ _; refine And.intro (by first | trivial | (unfold I64; omega) | omega | (refine ⟨?_, ?_⟩ <;> omega) | (simp; done) | (simp; omega) | (intros; omega)) ?_))
  (repeat (first | refine awp_seq ?_ | refine awp_block ?_ | ((first | refine awp_skip ?_ | refine awp_exit ?_); try simp only [xq, simprocAttr]) | (refine awp_ret ?_; try simp only [xq, simprocAttr]) | ((first | refine awp_reg ?_ | refine awp_anyR (by rfl) (by kernel_rfl) (by kernel_rfl) ?_); simp only [xr, simprocAttr]; repeat (guard_target =~ _ ∧ _; refine And.intro (by first | trivial | (unfold I64; omega) | omega | (refine ⟨?_, ?_⟩ <;> omega) | (simp; done) | (simp; omega) | (intros; omega)) ?_))))
  ((first | refine .inl ⟨_, (fun hh => l11Sum_d ws (indFitsS hh)), .inl rfl, ?_⟩ | refine ⟨_, (fun hh => l11Sum_d ws (indFitsS hh)), .inl rfl, ?_⟩); (try simp only [xr, simprocAttr]); repeat (guard_target =~ _ ∧ _; refine And.intro (by first | trivial | (unfold I64; omega) | omega | (refine ⟨?_, ?_⟩ <;> omega) | (simp; done) | (simp; omega) | (intros; omega)) ?_))
  (repeat (first | refine awp_seq ?_ | refine awp_block ?_ | ((first | refine awp_skip ?_ | refine awp_exit ?_); try simp only [xq, simprocAttr]) | (refine awp_ret ?_; try simp only [xq, simprocAttr]) | ((first | refine awp_reg ?_ | refine awp_anyR (by rfl) (by kernel_rfl) (by kernel_rfl) ?_); simp only [xr, simprocAttr]; repeat (guard_target =~ _ ∧ _; refine And.intro (by first | trivial | (unfold I64; omega) | omega | (refine ⟨?_, ?_⟩ <;> omega) | (simp; done) | (simp; omega) | (intros; omega)) ?_))))
  ((first | refine .inl ⟨_, (fun _ => l1In_d _ _ _), .inl rfl, ?_⟩ | refine ⟨_, (fun _ => l1In_d _ _ _), .inl rfl, ?_⟩); (try simp only [xr, simprocAttr]); repeat (guard_target =~ _ ∧ _; refine And.intro (by first | trivial | (unfold I64; omega) | omega | (refine ⟨?_, ?_⟩ <;> omega) | (simp; done) | (simp; omega) | (intros; omega)) ?_))
  (repeat (first | refine awp_seq ?_ | refine awp_block ?_ | ((first | refine awp_skip ?_ | refine awp_exit ?_); try simp only [xq, simprocAttr]) | (refine awp_ret ?_; try simp only [xq, simprocAttr]) | ((first | refine awp_reg ?_ | refine awp_anyR (by rfl) (by kernel_rfl) (by kernel_rfl) ?_); simp only [xr, simprocAttr]; repeat (guard_target =~ _ ∧ _; refine And.intro (by first | trivial | (unfold I64; omega) | omega | (refine ⟨?_, ?_⟩ <;> omega) | (simp; done) | (simp; omega) | (intros; omega)) ?_))))
  have hdef : indB m s x ws n = (takesB m s x [] && decide ((ws.length : Int) = s.length) && allIn 0 9 ws && !decide (ws.sum = 0) && rng n 0 3) := by
    unfold indB
    rw [dec_len, dec_beq]
    cases takesB m s x [] <;> cases rng n 0 3 <;> cases (ws.length == s.length) <;> cases allIn 0 9 ws <;> cases (ws.sum == 0) <;> rfl
  refine awp_cond (by first | rfl | (simp only [xr, simprocAttr]; rfl)) (fun hc => ?_) (fun hc => ?_)
  · have hc' := indS_no hc
    (repeat (first | refine awp_seq ?_ | refine awp_block ?_ | ((first | refine awp_skip ?_ | refine awp_exit ?_); try simp only [xq, simprocAttr]) | (refine awp_ret ?_; try simp only [xq, simprocAttr]) | ((first | refine awp_reg ?_ | refine awp_anyR (by rfl) (by kernel_rfl) (by kernel_rfl) ?_); simp only [xr, simprocAttr]; repeat (guard_target =~ _ ∧ _; refine And.intro (by first | trivial | (unfold I64; omega) | omega | (refine ⟨?_, ?_⟩ <;> omega) | (simp; done) | (simp; omega) | (intros; omega)) ?_))))
    (simp only [xec, simprocAttr]; refine ⟨[_, _], ⟨⟨by simp only [xr, simprocAttr] <;> (and_intros <;> first | trivial | (unfold I64; omega) | omega | (refine ⟨?_, ?_⟩ <;> omega) | (simp; done) | (simp; omega) | (intros; omega)), rfl⟩, rfl, trivial⟩, rfl, Imp.eq ?_⟩)
    rw [hdef, hc']
    rfl
  · have hc0 := indS hc
    have hyes : indB m s x ws n = true := by rw [hdef, hc0.1, hc0.2.1, hc0.2.2.1, hc0.2.2.2.1, hc0.2.2.2.2]; rfl
    obtain ⟨c1, c3, c4, c5, c2⟩ := hc0
    obtain ⟨hp, ⟨y, rfl, hy⟩, -, -⟩ := takes_ok c1
    have c2 := rng_iff.1 c2
    have c3 := of_decide_eq_true c3
    have c5 := of_decide_eq_false c5
    obtain ⟨N, rfl⟩ := Int.eq_ofNat_of_zero_le c2.1
    have hw : WsOK s ws := ⟨by omega, allIn_iff.1 c4⟩
    obtain ⟨w1, w2⟩ := hw.sum hp
    have hpl := prob_len hp
    have hwl := hw.len
    have hfit : SumFits ws := sumFits_of (B := 9) (allIn_iff.1 c4) (by omega) (by omega)
    have hpw := pow_bd w1 w2 N
    have hfb := freeM_bd hp hw N (by omega) y hy
    have hbF := bndF_le (k := N) (by omega)
    have hpos : 0 < ws.sum ^ N := Int.pow_pos (by omega)
    (repeat (first | refine awp_seq ?_ | refine awp_block ?_ | ((first | refine awp_skip ?_ | refine awp_exit ?_); try simp only [xq, simprocAttr]) | (refine awp_ret ?_; try simp only [xq, simprocAttr]) | ((first | refine awp_reg ?_ | refine awp_anyR (by rfl) (by kernel_rfl) (by kernel_rfl) ?_); simp only [xr, simprocAttr]; repeat (guard_target =~ _ ∧ _; refine And.intro (by first | trivial | (unfold I64; omega) | omega | (refine ⟨?_, ?_⟩ <;> omega) | (simp; done) | (simp; omega) | (intros; omega)) ?_))))
    ((first | refine .inl ⟨_, (l11Free_d hp hw (by omega) N (by omega) y hy), .inl rfl, ?_⟩ | refine ⟨_, (l11Free_d hp hw (by omega) N (by omega) y hy), .inl rfl, ?_⟩); (try simp only [xr, simprocAttr]); repeat (guard_target =~ _ ∧ _; refine And.intro (by first | trivial | (unfold I64; omega) | omega | (refine ⟨?_, ?_⟩ <;> omega) | (simp; done) | (simp; omega) | (intros; omega)) ?_))
    ((first | refine .inl ⟨_, (l11Sum_d ws hfit), .inl rfl, ?_⟩ | refine ⟨_, (l11Sum_d ws hfit), .inl rfl, ?_⟩); (try simp only [xr, simprocAttr]); repeat (guard_target =~ _ ∧ _; refine And.intro (by first | trivial | (unfold I64; omega) | omega | (refine ⟨?_, ?_⟩ <;> omega) | (simp; done) | (simp; omega) | (intros; omega)) ?_))
    ((first | refine .inl ⟨_, (l11Power_d ws.sum N (by omega) (by omega) (by omega)), .inl rfl, ?_⟩ | refine ⟨_, (l11Power_d ws.sum N (by omega) (by omega) (by omega)), .inl rfl, ?_⟩); (try simp only [xr, simprocAttr]); repeat (guard_target =~ _ ∧ _; refine And.intro (by first | trivial | (unfold I64; omega) | omega | (refine ⟨?_, ?_⟩ <;> omega) | (simp; done) | (simp; omega) | (intros; omega)) ?_))
    ((first | refine .inl ⟨_, (l2Make_d _ _ (by omega) (by omega) (by omega) (by omega)), .inl rfl, ?_⟩ | refine ⟨_, (l2Make_d _ _ (by omega) (by omega) (by omega) (by omega)), .inl rfl, ?_⟩); (try simp only [xr, simprocAttr]); repeat (guard_target =~ _ ∧ _; refine And.intro (by first | trivial | (unfold I64; omega) | omega | (refine ⟨?_, ?_⟩ <;> omega) | (simp; done) | (simp; omega) | (intros; omega)) ?_))
    (repeat (first | refine awp_seq ?_ | refine awp_block ?_ | ((first | refine awp_skip ?_ | refine awp_exit ?_); try simp only [xq, simprocAttr]) | (refine awp_ret ?_; try simp only [xq, simprocAttr]) | ((first | refine awp_reg ?_ | refine awp_anyR (by rfl) (by kernel_rfl) (by kernel_rfl) ?_); simp only [xr, simprocAttr]; repeat (guard_target =~ _ ∧ _; refine And.intro (by first | trivial | (unfold I64; omega) | omega | (refine ⟨?_, ?_⟩ <;> omega) | (simp; done) | (simp; omega) | (intros; omega)) ?_))))
    (simp only [xec, simprocAttr]; refine ⟨[_, _], ⟨⟨by simp only [xr, simprocAttr] <;> (and_intros <;> first | trivial | (unfold I64; omega) | omega | (refine ⟨?_, ?_⟩ <;> omega) | (simp; done) | (simp; omega) | (intros; omega)), rfl⟩, rfl, trivial⟩, rfl, Imp.eq ?_⟩)
    rw [hyes]
    rfl
end Go.Proofs.Ytoaecbdpkmeenaa
