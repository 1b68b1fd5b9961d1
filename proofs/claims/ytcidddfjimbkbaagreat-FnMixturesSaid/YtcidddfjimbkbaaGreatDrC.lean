/- The reference's drawn weights and mixtures, on the machine. Conditions: the place is small; sizes are small. -/
import Derived.Test.YtcidddfjimbkbaaGreatGAL
import Derived.Test.YtcidddfjimbkbaaGreatDrP
set_option linter.all false
set_option linter.unusedSimpArgs false
set_option linter.unusedVariables false
namespace Go.Proofs.YtcidddfjimbkbaaGreat
open Go Go.RowKit Am

abbrev wsL (lo : Int) : List Int := [1, 1, 2, 3, 5, 9, lo]
def wsF (tag : Int) (o : List Int) (c : Cu) : List Int × Cu :=
  if tag = 0 then (o ++ [1], c)
  else if tag = 1 ∧ 0 < o.length then (o.set 0 (amV [0, -1, 10] c), amC [0, -1, 10] c)
  else (o, c)
theorem wsF_ok {tag : Int} {o : List Int} {c : Cu} {m0 : Int} (h : CuOK m0 c) : (wsF tag o c).1.length ≤ o.length + 1 ∧ CuOK (m0 + 2) (wsF tag o c).2 := by
  have h2 : CuOK (m0 + 2) c := h.mono (by omega)
  unfold wsF
  repeat' split
  all_goals first
    | exact ⟨by simp, amC_ok h⟩
    | exact ⟨by simp, h2⟩
theorem weights11_h {n : Nat} {lo : Int} {c : Cu} (hn : n ≤ 20) (hc : CuOK 999999999000 c) : ∃ w c', w.length ≤ n + 1 ∧ (∀ m0, CuOK m0 c → CuOK (m0 + 44) c') ∧ DoesH Tryz.prog 58 [.lf (.ptr 0 0), .int n, .int lo] [true] [curO c] (.sl (.ints w)) [curO c'] := by
  have hl := amL_len (wsL lo) c n
  refine ⟨(wsF (pkV 32 (amLC (wsL lo) n c)) (amL (wsL lo) n c) (pkC 32 (amLC (wsL lo) n c))).1, (wsF (pkV 32 (amLC (wsL lo) n c)) (amL (wsL lo) n c) (pkC 32 (amLC (wsL lo) n c))).2, ?_, fun m0 h => (wsF_ok (pkC_ok (n := 32) (amLC_ok (xs := wsL lo) h n))).2.mono (by omega), ?_⟩
  · have := (wsF_ok (tag := pkV 32 (amLC (wsL lo) n c)) (o := amL (wsL lo) n c) (pkC_ok (n := 32) (amLC_ok (xs := wsL lo) hc n))).1
    omega
  refine spec_hB Tryz.func58 rfl Tryz.ntmps58 cfOK (fun _ _ => by kernel_rfl) rfl rfl rfl ?_
  intro M0 w0 S φ0
  rw [Tryz.results58]
  (repeat (first | refine g1 ?_ | refine g2 ?_ | ((first | refine g3 ?_ | refine g4 ?_ | refine g5 ?_); try simp only [xq, simprocAttr]) | ((first | refine g6 ?_ | refine g7 ?_); simp only [xr, simprocAttr]; repeat (guard_target =~ _ ∧ _; refine ⟨by first | trivial | (unfold I64; omega) | omega | (simp <;> omega) | (intros; omega), ?_⟩))))
  refine awp_rounds (α := Nat) (fun k => [(8, true, .int k)]) [0, 1, 2, 7] (fun k => [curO (amLC (wsL lo) k c), .row 3 (.ints (amL (wsL lo) k c))]) (fun k => k ≤ n) (fun k => n - k) 0 (by ((try simp only [xk]); (repeat (refine leK_cons ?_ ?_; first | (focus (first | rfl | (simp only [xr, simprocAttr]; done) | (simp only [xr, simprocAttr]; refine int_eq1 ?_; first | trivial | (unfold I64; omega) | omega | (simp <;> omega) | (intros; omega)))) | rotate_left)); (try exact leK_nil rfl); (all_goals (try (simp only [xr, simprocAttr]; try refine int_eq1 ?_))))) (Nat.zero_le _) fun k hk => ?_
  have hlk := amL_len (wsL lo) c k
  have hck := amLC_ok (xs := wsL lo) hc k
  simp only [xr, simprocAttr]
  (repeat (first | refine g1 ?_ | refine g2 ?_ | ((first | refine g3 ?_ | refine g4 ?_ | refine g5 ?_); try simp only [xq, simprocAttr]) | ((first | refine g6 ?_ | refine g7 ?_); simp only [xr, simprocAttr]; repeat (guard_target =~ _ ∧ _; refine ⟨by first | trivial | (unfold I64; omega) | omega | (simp <;> omega) | (intros; omega), ?_⟩))))
  refine awp_cond (by first | rfl | (simp only [xr, simprocAttr]; rfl)) (fun h1 => ?_) (fun h1 => ?_)
  · have h1 := of_decide_eq_true h1
    (repeat (first | refine g1 ?_ | refine g2 ?_ | ((first | refine g3 ?_ | refine g4 ?_ | refine g5 ?_); try simp only [xq, simprocAttr]) | ((first | refine g6 ?_ | refine g7 ?_); simp only [xr, simprocAttr]; repeat (guard_target =~ _ ∧ _; refine ⟨by first | trivial | (unfold I64; omega) | omega | (simp <;> omega) | (intros; omega), ?_⟩))))
    (refine .inr (.inl (callW_a [0] (among_h (xs := wsL lo) (hck.mono (by omega)) (by simp)) rfl rfl rfl rfl ⟨rfl, trivial⟩ rfl rfl rfl rfl ?_)); (try simp only [xr, simprocAttr]); repeat (guard_target =~ _ ∧ _; refine ⟨by first | trivial | (unfold I64; omega) | omega | (simp <;> omega) | (intros; omega), ?_⟩))
    (repeat (first | refine g1 ?_ | refine g2 ?_ | ((first | refine g3 ?_ | refine g4 ?_ | refine g5 ?_); try simp only [xq, simprocAttr]) | ((first | refine g6 ?_ | refine g7 ?_); simp only [xr, simprocAttr]; repeat (guard_target =~ _ ∧ _; refine ⟨by first | trivial | (unfold I64; omega) | omega | (simp <;> omega) | (intros; omega), ?_⟩))))
    refine ⟨k + 1, by omega, by omega, .inr ⟨2, Nat.le_of_ble_eq_true rfl, leT_of ?_ rfl rfl rfl⟩⟩
    ((try simp only [xk]); (repeat (refine leK_cons ?_ ?_; first | (focus (first | rfl | (simp only [xr, simprocAttr]; done) | (simp only [xr, simprocAttr]; refine int_eq1 ?_; first | trivial | (unfold I64; omega) | omega | (simp <;> omega) | (intros; omega)))) | rotate_left)); (refine leK_nil ?_; exact (rfl)); (all_goals (try (simp only [xr, simprocAttr]; try refine int_eq1 ?_))))
  · have h1 := of_decide_eq_false h1
    obtain rfl : k = n := by omega
    have hck2 := pkC_ok (n := 32) hck
    (repeat (first | refine g1 ?_ | refine g2 ?_ | ((first | refine g3 ?_ | refine g4 ?_ | refine g5 ?_); try simp only [xq, simprocAttr]) | ((first | refine g6 ?_ | refine g7 ?_); simp only [xr, simprocAttr]; repeat (guard_target =~ _ ∧ _; refine ⟨by first | trivial | (unfold I64; omega) | omega | (simp <;> omega) | (intros; omega), ?_⟩))))
    (refine .inr (.inl (callW_a [0] (pick_h (n := 32) (hck.mono (by omega))) rfl rfl rfl rfl ⟨rfl, trivial⟩ rfl rfl rfl rfl ?_)); (try simp only [xr, simprocAttr]); repeat (guard_target =~ _ ∧ _; refine ⟨by first | trivial | (unfold I64; omega) | omega | (simp <;> omega) | (intros; omega), ?_⟩))
    (repeat (first | refine g1 ?_ | refine g2 ?_ | ((first | refine g3 ?_ | refine g4 ?_ | refine g5 ?_); try simp only [xq, simprocAttr]) | ((first | refine g6 ?_ | refine g7 ?_); simp only [xr, simprocAttr]; repeat (guard_target =~ _ ∧ _; refine ⟨by first | trivial | (unfold I64; omega) | omega | (simp <;> omega) | (intros; omega), ?_⟩))))
    generalize pkV 32 (amLC (wsL lo) k c) = tag
    generalize pkC 32 (amLC (wsL lo) k c) = cg at hck2
    generalize amL (wsL lo) k c = o at hl
    refine awp_cond (by first | rfl | (simp only [xr, simprocAttr]; rfl)) (fun t0 => ?_) (fun t0 => ?_)
    · have t0 := of_decide_eq_true t0
      rw [show wsF tag o cg = (o ++ [1], cg) from if_pos t0]
      ((repeat (first | refine g1 ?_ | refine g2 ?_ | ((first | refine g3 ?_ | refine g4 ?_); try simp only [xq, simprocAttr]))); ((first | refine g6 ?_ | refine g7 ?_); simp only [xr, simprocAttr]; repeat (guard_target =~ _ ∧ _; refine ⟨by first | trivial | (unfold I64; omega) | omega | (simp <;> omega) | (intros; omega), ?_⟩)); (repeat (first | refine g1 ?_ | refine g2 ?_ | ((first | refine g3 ?_ | refine g4 ?_); try simp only [xq, simprocAttr]))))
      (refine awp_frz 1 rfl ?_; simp only [xz, simprocAttr])
      (repeat (first | refine g1 ?_ | refine g2 ?_ | ((first | refine g3 ?_ | refine g4 ?_ | refine g5 ?_); try simp only [xq, simprocAttr]) | ((first | refine g6 ?_ | refine g7 ?_); simp only [xr, simprocAttr]; repeat (guard_target =~ _ ∧ _; refine ⟨by first | trivial | (unfold I64; omega) | omega | (simp <;> omega) | (intros; omega), ?_⟩))))
      (simp only [ends_normal, ends_ret]; refine retH_1 [0] rfl ⟨rfl, trivial⟩ rfl rfl rfl rfl rfl ?_; try rfl)
    have t0 := of_decide_eq_false t0
    (repeat (first | refine g1 ?_ | refine g2 ?_ | ((first | refine g3 ?_ | refine g4 ?_ | refine g5 ?_); try simp only [xq, simprocAttr]) | ((first | refine g6 ?_ | refine g7 ?_); simp only [xr, simprocAttr]; repeat (guard_target =~ _ ∧ _; refine ⟨by first | trivial | (unfold I64; omega) | omega | (simp <;> omega) | (intros; omega), ?_⟩))))
    refine awp_cond (by first | rfl | (simp only [xr, simprocAttr]; rfl)) (fun t1 => ?_) (fun t1 => ?_)
    · have t1 := of_decide_eq_true t1
      (repeat (first | refine g1 ?_ | refine g2 ?_ | ((first | refine g3 ?_ | refine g4 ?_ | refine g5 ?_); try simp only [xq, simprocAttr]) | ((first | refine g6 ?_ | refine g7 ?_); simp only [xr, simprocAttr]; repeat (guard_target =~ _ ∧ _; refine ⟨by first | trivial | (unfold I64; omega) | omega | (simp <;> omega) | (intros; omega), ?_⟩))))
      refine awp_cond (by first | rfl | (simp only [xr, simprocAttr]; rfl)) (fun t2 => ?_) (fun t2 => ?_)
      · have t2 := of_decide_eq_true t2
        rw [show wsF tag o cg = (o.set 0 (amV [0, -1, 10] cg), amC [0, -1, 10] cg) from (if_neg t0).trans (if_pos ⟨t1, by omega⟩)]
        (repeat (first | refine g1 ?_ | refine g2 ?_ | ((first | refine g3 ?_ | refine g4 ?_ | refine g5 ?_); try simp only [xq, simprocAttr]) | ((first | refine g6 ?_ | refine g7 ?_); simp only [xr, simprocAttr]; repeat (guard_target =~ _ ∧ _; refine ⟨by first | trivial | (unfold I64; omega) | omega | (simp <;> omega) | (intros; omega), ?_⟩))))
        (refine .inr (.inl (callW_a [0] (among_h (xs := [0, -1, 10]) (hck2.mono (by omega)) (by simp)) rfl rfl rfl rfl ⟨rfl, trivial⟩ rfl rfl rfl rfl ?_)); (try simp only [xr, simprocAttr]); repeat (guard_target =~ _ ∧ _; refine ⟨by first | trivial | (unfold I64; omega) | omega | (simp <;> omega) | (intros; omega), ?_⟩))
        (refine awp_frz 1 rfl ?_; simp only [xz, simprocAttr])
        (repeat (first | refine g1 ?_ | refine g2 ?_ | ((first | refine g3 ?_ | refine g4 ?_ | refine g5 ?_); try simp only [xq, simprocAttr]) | ((first | refine g6 ?_ | refine g7 ?_); simp only [xr, simprocAttr]; repeat (guard_target =~ _ ∧ _; refine ⟨by first | trivial | (unfold I64; omega) | omega | (simp <;> omega) | (intros; omega), ?_⟩))))
        (simp only [ends_normal, ends_ret]; refine retH_1 [0] rfl ⟨rfl, trivial⟩ rfl rfl rfl rfl rfl ?_; try rfl)
      · have t2 := of_decide_eq_false t2
        rw [show wsF tag o cg = (o, cg) from (if_neg t0).trans (if_neg (fun h => t2 (by omega)))]
        (refine awp_frz 1 rfl ?_; simp only [xz, simprocAttr])
        (repeat (first | refine g1 ?_ | refine g2 ?_ | ((first | refine g3 ?_ | refine g4 ?_ | refine g5 ?_); try simp only [xq, simprocAttr]) | ((first | refine g6 ?_ | refine g7 ?_); simp only [xr, simprocAttr]; repeat (guard_target =~ _ ∧ _; refine ⟨by first | trivial | (unfold I64; omega) | omega | (simp <;> omega) | (intros; omega), ?_⟩))))
        (simp only [ends_normal, ends_ret]; refine retH_1 [0] rfl ⟨rfl, trivial⟩ rfl rfl rfl rfl rfl ?_; try rfl)
    have t1 := of_decide_eq_false t1
    rw [show wsF tag o cg = (o, cg) from (if_neg t0).trans (if_neg (fun h => t1 h.1))]
    (refine awp_frz 1 rfl ?_; simp only [xz, simprocAttr])
    (repeat (first | refine g1 ?_ | refine g2 ?_ | ((first | refine g3 ?_ | refine g4 ?_ | refine g5 ?_); try simp only [xq, simprocAttr]) | ((first | refine g6 ?_ | refine g7 ?_); simp only [xr, simprocAttr]; repeat (guard_target =~ _ ∧ _; refine ⟨by first | trivial | (unfold I64; omega) | omega | (simp <;> omega) | (intros; omega), ?_⟩))))
    (simp only [ends_normal, ends_ret]; refine retH_1 [0] rfl ⟨rfl, trivial⟩ rfl rfl rfl rfl rfl ?_; try rfl)
/-- k algorithms -/
def mxC (m s : List (List Int)) : Nat → Cu → Cu
  | 0, c => c
  | k + 1, c => (alG m s (mxC m s k c)).2
def mxV (m s : List (List Int)) : Nat → Cu → List (List (List Int))
  | 0, _ => []
  | k + 1, c => mxV m s k c ++ [(alG m s (mxC m s k c)).1]
theorem mxV_len (m s : List (List Int)) (c : Cu) : ∀ k, (mxV m s k c).length = k
  | 0 => rfl
  | k + 1 => by simp [mxV, mxV_len m s c k]
theorem alG_len (m s : List (List Int)) (c : Cu) : (alG m s c).1.length ≤ m.length ∧ ∀ r ∈ (alG m s c).1, r.length ≤ s.length + 1 := by
  have hol := alO_len m.length s c m.length
  have hor : ∀ r ∈ alO m.length s m.length c, r.length ≤ s.length := fun r hr => by have := alO_row m.length s c m.length r hr; omega
  constructor
  · unfold alG
    split
    · unfold alF
      repeat' split
      all_goals simp [hol]
    · dsimp only; omega
  · unfold alG
    split
    · exact alF_row hor
    · intro r hr
      have := hor r hr
      omega
theorem alG_ok {m s : List (List Int)} {c : Cu} {m0 : Int} (hm : m.length ≤ 5) (hs : s.length ≤ 16) (h : CuOK m0 c) : CuOK (m0 + 170) (alG m s c).2 := by
  unfold alG
  split
  · exact (alF_ok (pkC_ok (n := 24) (alOC_ok (n := m.length) h hs m.length))).2.mono (by omega)
  · exact (alOC_ok (n := m.length) h hs m.length).mono (by omega)
theorem mxC_ok {m s : List (List Int)} {c : Cu} {m0 : Int} (hm : m.length ≤ 5) (hs : s.length ≤ 16) (h : CuOK m0 c) : ∀ k : Nat, CuOK (m0 + 170 * k) (mxC m s k c)
  | 0 => h.mono (by omega)
  | k + 1 => (alG_ok hm hs (mxC_ok hm hs h k)).mono (by omega)
theorem mxV_row (m s : List (List Int)) (c : Cu) : ∀ k, ∀ a ∈ mxV m s k c, a.length ≤ m.length ∧ ∀ r ∈ a, r.length ≤ s.length + 1
  | 0 => by simp [mxV]
  | k + 1 => fun r hr => by
    simp only [mxV, List.mem_append, List.mem_singleton] at hr
    rcases hr with hr | rfl
    · exact mxV_row m s c k r hr
    · exact alG_len _ _ _
abbrev mnL : List Int := [1, 2, 2, 3, 4, 2, 3, 5, 0]
set_option maxHeartbeats 2000000 in
theorem mixture_h {m s : List (List Int)} {c : Cu} (hm : m.length ≤ 5) (hs : s.length ≤ 16) (hc : CuOK 999999990000 c) : ∃ w X c', w.length ≤ 6 ∧ X.length ≤ 5 ∧ (∀ a ∈ X, a.length ≤ m.length ∧ ∀ r ∈ a, r.length ≤ s.length + 1) ∧ (∀ m0, CuOK m0 c → CuOK (m0 + 900) c') ∧ DoesH Tryz.prog 36 [.lf (.ptr 0 0), .tv (.agg [.b (.sl (.ii m)), .b (.sl (.ii s))])] [true] [curO c] (.tv (.agg [.b (.sl (.ints w)), .b (.sl (.iii X))])) [curO c'] := by
  obtain ⟨q1, q2⟩ := pkV_rng 16 hc
  have q2 := q2 (by omega)
  have hc1 := pkC_ok (n := 16) hc
  obtain ⟨nl, hnl, hl0, hl1⟩ : ∃ nl : Nat, (7 + pkV 16 c / 6 : Int) = nl ∧ 7 ≤ nl ∧ nl ≤ 9 := ⟨(7 + pkV 16 c / 6).toNat, by omega, by omega, by omega⟩
  have hlen : 0 < (mnL.take nl).length := by simp; omega
  obtain ⟨n, hn, hn1⟩ : ∃ n : Nat, amV (mnL.take nl) (pkC 16 c) = n ∧ n ≤ 5 := by
    have h := List.mem_of_mem_take (amV_mem hc1 hlen)
    simp only [List.mem_cons, List.not_mem_nil, or_false] at h
    refine ⟨(amV (mnL.take nl) (pkC 16 c)).toNat, ?_, ?_⟩ <;> omega
  have hc2 := amC_ok (xs := mnL.take nl) hc1
  have hc3 := mxC_ok hm hs hc2 n
  obtain ⟨w, c', hw, hb, hd⟩ := weights11_h (n := (mxV m s n (amC (mnL.take nl) (pkC 16 c))).length) (lo := 1) (c := mxC m s n (amC (mnL.take nl) (pkC 16 c))) (by rw [mxV_len]; omega) (hc3.mono (by omega))
  have hl := mxV_len m s (amC (mnL.take nl) (pkC 16 c)) n
  refine ⟨w, mxV m s n (amC (mnL.take nl) (pkC 16 c)), c', by omega, by omega, mxV_row m s _ n, fun m0 h => (hb _ (mxC_ok hm hs (amC_ok (pkC_ok h)) n)).mono (by omega), ?_⟩
  have da := among_h (xs := (mnL.take nl).drop 0) (c := pkC 16 c) (hc1.mono (by omega)) hlen
  rw [show amV ((mnL.take nl).drop 0) (pkC 16 c) = (n : Int) from hn, show amC ((mnL.take nl).drop 0) (pkC 16 c) = amC (mnL.take nl) (pkC 16 c) from rfl] at da
  generalize amC (mnL.take nl) (pkC 16 c) = c2 at da hc2 hc3 hd hl
  refine spec_hB Tryz.func36 rfl Tryz.ntmps36 cfOK (fun _ _ => by kernel_rfl) rfl rfl rfl ?_
  intro M0 w0 S φ0
  rw [Tryz.results36]
  (repeat (first | refine g1 ?_ | refine g2 ?_ | ((first | refine g3 ?_ | refine g4 ?_ | refine g5 ?_); try simp only [xq, simprocAttr]) | ((first | refine g6 ?_ | refine g7 ?_); simp only [xr, simprocAttr]; repeat (guard_target =~ _ ∧ _; refine ⟨by first | trivial | (unfold I64; omega) | omega | (simp <;> omega) | (intros; omega), ?_⟩))))
  (refine .inr (.inl (callW_a [0] (pick_h (n := 16) (hc.mono (by omega))) rfl rfl rfl rfl ⟨rfl, trivial⟩ rfl rfl rfl rfl ?_)); (try simp only [xr, simprocAttr]); repeat (guard_target =~ _ ∧ _; refine ⟨by first | trivial | (unfold I64; omega) | omega | (simp <;> omega) | (intros; omega), ?_⟩))
  rw [show (7 + pkV 16 c / 6).toNat = nl by omega]
  (refine .inr (.inl (callW_a [0] (da) rfl rfl rfl rfl ⟨rfl, trivial⟩ rfl rfl rfl rfl ?_)); (try simp only [xr, simprocAttr]); repeat (guard_target =~ _ ∧ _; refine ⟨by first | trivial | (unfold I64; omega) | omega | (simp <;> omega) | (intros; omega), ?_⟩))
  (repeat (first | refine g1 ?_ | refine g2 ?_ | ((first | refine g3 ?_ | refine g4 ?_ | refine g5 ?_); try simp only [xq, simprocAttr]) | ((first | refine g6 ?_ | refine g7 ?_); simp only [xr, simprocAttr]; repeat (guard_target =~ _ ∧ _; refine ⟨by first | trivial | (unfold I64; omega) | omega | (simp <;> omega) | (intros; omega), ?_⟩))))
  (refine awp_nil 3 1 24 (.iii []) rfl rfl rfl (by first | trivial | (intro _ h; cases h)) ?_; simp only [xr, simprocAttr])
  refine awp_rounds (α := Nat) (fun k => [(6, true, .int ((n : Int) - (k : Int)))]) [0, 3, 4, 5] (fun k => [curO (mxC m s k c2), .box [.b (.sl (.ii m)), .b (.sl (.ii s))], .box [.b (.val (.slice none 0 0)), .b (.val (.slice none 0 0))], .box [.b (.val (.slice none 0 0)), .own 4], .row 24 (.iii (mxV m s k c2))]) (fun k => k ≤ n) (fun k => n - k) 0 (by ((try simp only [xk]); (repeat (refine leK_cons ?_ ?_; first | (focus (first | rfl | (simp only [xr, simprocAttr]; done) | (simp only [xr, simprocAttr]; refine int_eq1 ?_; first | trivial | (unfold I64; omega) | omega | (simp <;> omega) | (intros; omega)))) | rotate_left)); (try exact leK_nil rfl); (all_goals (try (simp only [xr, simprocAttr]; try refine int_eq1 ?_))))) (Nat.zero_le _) fun k hk => ?_
  have hlk := mxV_len m s c2 k
  have hck := mxC_ok hm hs hc2 k
  simp only [xr, simprocAttr]
  (repeat (first | refine g1 ?_ | refine g2 ?_ | ((first | refine g3 ?_ | refine g4 ?_ | refine g5 ?_); try simp only [xq, simprocAttr]) | ((first | refine g6 ?_ | refine g7 ?_); simp only [xr, simprocAttr]; repeat (guard_target =~ _ ∧ _; refine ⟨by first | trivial | (unfold I64; omega) | omega | (simp <;> omega) | (intros; omega), ?_⟩))))
  refine awp_cond (by first | rfl | (simp only [xr, simprocAttr]; rfl)) (fun h1 => ?_) (fun h1 => ?_)
  · have h1 := of_decide_eq_true h1
    ((repeat (first | refine g1 ?_ | refine g2 ?_ | ((first | refine g3 ?_ | refine g4 ?_); try simp only [xq, simprocAttr]))); refine awp_anyG 1 [(4, [0]), (6, [5, 4]), (8, [3, 5])] [5, 4, 0] [(1, [5, 0]), (4, [5, 4]), (6, [0]), (8, [0])] ?_; simp (maxSteps := 3000000) only [xg, xr, simprocAttr]; repeat (guard_target =~ _ ∧ _; refine ⟨by first | (guard_target =~ _ = _; rfl) | (guard_target =~ (_ : Int) ≤ _; omega) | (first | trivial | (unfold I64; omega) | omega | (simp <;> omega) | (intros; omega)), ?_⟩))
    ((first | refine .inr (.inr ⟨0, _, _, callG_h (algorithm_g (m := m) (s := s) (c := mxC m s k c2) hm hs (hck.mono (by omega))) rfl rfl rfl rfl rfl rfl rfl, ?_⟩) | refine .inr ⟨0, _, _, callG_h (algorithm_g (m := m) (s := s) (c := mxC m s k c2) hm hs (hck.mono (by omega))) rfl rfl rfl rfl rfl rfl rfl, ?_⟩ | refine ⟨0, _, _, callG_h (algorithm_g (m := m) (s := s) (c := mxC m s k c2) hm hs (hck.mono (by omega))) rfl rfl rfl rfl rfl rfl rfl, ?_⟩); (try simp (maxSteps := 3000000) only [xg, xr, simprocAttr]); repeat (guard_target =~ _ ∧ _; refine ⟨by first | (guard_target =~ _ = _; rfl) | (guard_target =~ (_ : Int) ≤ _; omega) | (first | trivial | (unfold I64; omega) | omega | (simp <;> omega) | (intros; omega)), ?_⟩))
    (refine awp_mv 4 5 rfl rfl (by decide) rfl rfl ?_; simp only [xm, simprocAttr])
    (repeat (first | refine g1 ?_ | refine g2 ?_ | ((first | refine g3 ?_ | refine g4 ?_ | refine g5 ?_); try simp only [xq, simprocAttr]) | ((first | refine g6 ?_ | refine g7 ?_); simp only [xr, simprocAttr]; repeat (guard_target =~ _ ∧ _; refine ⟨by first | trivial | (unfold I64; omega) | omega | (simp <;> omega) | (intros; omega), ?_⟩))))
    refine ⟨k + 1, by omega, by omega, .inr ⟨5, Nat.le_of_ble_eq_true rfl, leT_of ?_ rfl rfl rfl⟩⟩
    ((try simp only [xk]); (repeat (refine leK_cons ?_ ?_; first | (focus (first | rfl | (simp only [xr, simprocAttr]; done) | (simp only [xr, simprocAttr]; refine int_eq1 ?_; first | trivial | (unfold I64; omega) | omega | (simp <;> omega) | (intros; omega)))) | rotate_left)); (refine leK_nil ?_; exact (rfl)); (all_goals (try (simp only [xr, simprocAttr]; try refine int_eq1 ?_))))
  · have h1 := of_decide_eq_false h1
    obtain rfl : k = n := by omega
    (repeat (first | refine g1 ?_ | refine g2 ?_ | ((first | refine g3 ?_ | refine g4 ?_ | refine g5 ?_); try simp only [xq, simprocAttr]) | ((first | refine g6 ?_ | refine g7 ?_); simp only [xr, simprocAttr]; repeat (guard_target =~ _ ∧ _; refine ⟨by first | trivial | (unfold I64; omega) | omega | (simp <;> omega) | (intros; omega), ?_⟩))))
    (refine .inr (.inl (callW_a [0] (hd) rfl rfl rfl rfl ⟨rfl, trivial⟩ rfl rfl rfl rfl ?_)); (try simp only [xr, simprocAttr]); repeat (guard_target =~ _ ∧ _; refine ⟨by first | trivial | (unfold I64; omega) | omega | (simp <;> omega) | (intros; omega), ?_⟩))
    (refine awp_frz 4 rfl ?_; simp only [xz, simprocAttr])
    (repeat (first | refine g1 ?_ | refine g2 ?_ | ((first | refine g3 ?_ | refine g4 ?_ | refine g5 ?_); try simp only [xq, simprocAttr]) | ((first | refine g6 ?_ | refine g7 ?_); simp only [xr, simprocAttr]; repeat (guard_target =~ _ ∧ _; refine ⟨by first | trivial | (unfold I64; omega) | omega | (simp <;> omega) | (intros; omega), ?_⟩))))
    (simp only [ends_normal, ends_ret]; refine retH_1 [0] rfl ⟨rfl, trivial⟩ rfl rfl rfl rfl ⟨by simp only [xr, simprocAttr] <;> (and_intros <;> first | trivial | (unfold I64; omega) | omega | (simp <;> omega) | (intros; omega)), rfl⟩ ?_; try rfl)
end Go.Proofs.YtcidddfjimbkbaaGreat
