/- MarkBound of the program and of the reference, on the machine. Conditions: those that each names. -/
import Derived.Test.YtiaddmelbonhcaaBoundP
import Derived.Test.YtiaddmelbonhcaaFracM
set_option linter.all false
set_option linter.unusedSimpArgs false
set_option linter.unusedVariables false
namespace Go.Proofs.Ytiaddmelbonhcaa
open Go Go.RowKit Am

abbrev frL (a : Int × Int) : List Int := [a.1, a.2]
set_option maxHeartbeats 1000000 in
theorem sumFracs_f (D : Int) (hD : 1 ≤ D) (hD2 : D ≤ 100000) (l : List (Int × Int)) (ns : List Int) (hl : l.length = ns.length) (hn : ns.length ≤ 100) (hf : ∀ k, k < ns.length → IsFr (l.getD k (0, 0)) (ns.getD k 0) D) (hb : ∀ k, k ≤ ns.length → -100000000 ≤ (ns.take k).sum ∧ (ns.take k).sum ≤ 100000000) : Does Try.prog 140 [.sl (.k 2 (l.map frL))] (.imm (.tup [frT (mkFr ns.sum D), blT true])) := by
  have hml : (l.map frL).length = ns.length := by rw [List.length_map, hl]
  have h0 := fr_zero (D := D) (by omega)
  refine spec_imm Try.func140 rfl Try.ntmps140 cfOK (fun _ _ => by kernel_rfl) rfl (Nat.le_of_ble_eq_true rfl) ?_
  intro M0 w0
  rw [Try.results140]
  (repeat (first | refine g1 ?_ | refine g2 ?_ | ((first | refine g3 ?_ | refine g4 ?_ | refine g5 ?_); try simp only [xq, simprocAttr]) | ((first | refine g6 ?_ | refine g7 ?_); simp only [xr, simprocAttr]; repeat (guard_target =~ _ ∧ _; refine ⟨by first | trivial | (unfold I64; omega) | omega | (simp <;> omega) | (intros; omega), ?_⟩))))
  refine awp_cond (by first | rfl | (simp only [xr, simprocAttr]; rfl)) (fun hc => ?_) (fun hc => ?_)
  · have := of_decide_eq_true hc
    omega
  (repeat (first | refine g1 ?_ | refine g2 ?_ | ((first | refine g3 ?_ | refine g4 ?_ | refine g5 ?_); try simp only [xq, simprocAttr]) | ((first | refine g6 ?_ | refine g7 ?_); simp only [xr, simprocAttr]; repeat (guard_target =~ _ ∧ _; refine ⟨by first | trivial | (unfold I64; omega) | omega | (simp <;> omega) | (intros; omega), ?_⟩))))
  refine awp_rounds (α := Nat) (fun k => [(15, true, .int k), (5, true, .bool true)]) [2, 4, 13, 14] (fun k => [.box [.b (.val (.int .i64 0)), .b (.val (.int .i64 0))], .box [.b (.val (.int .i64 (mkFr (ns.take k).sum D).1)), .b (.val (.int .i64 (mkFr (ns.take k).sum D).2))]]) (fun k => k ≤ ns.length) (fun k => ns.length - k) 0 (by ((try simp only [xk]); (repeat (refine leK_cons ?_ ?_; first | (focus (first | rfl | (simp only [xr, simprocAttr]; done) | (simp only [xr, simprocAttr]; refine int_eq1 ?_; first | trivial | (unfold I64; omega) | omega | (simp <;> omega) | (intros; omega)))) | rotate_left)); (refine leK_nil ?_; exact (by simp [h0])); (all_goals (try (simp only [xr, simprocAttr]; try refine int_eq1 ?_))))) (Nat.zero_le _) fun k hk => ?_
  simp only [xr, simprocAttr]
  (repeat (first | refine g1 ?_ | refine g2 ?_ | ((first | refine g3 ?_ | refine g4 ?_ | refine g5 ?_); try simp only [xq, simprocAttr]) | ((first | refine g6 ?_ | refine g7 ?_); simp only [xr, simprocAttr]; repeat (guard_target =~ _ ∧ _; refine ⟨by first | trivial | (unfold I64; omega) | omega | (simp <;> omega) | (intros; omega), ?_⟩))))
  refine awp_cond (by first | rfl | (simp only [xr, simprocAttr]; rfl)) (fun hc => ?_) (fun hc => ?_)
  · have hk' : k < ns.length := by have := of_decide_eq_true hc; omega
    have hs := hb k (by omega)
    have hs1 := hb (k + 1) (by omega)
    have hsum : (ns.take (k + 1)).sum = (ns.take k).sum + ns.getD k 0 := by rw [take_getD hk' 0, List.sum_append]; simp
    have hfr := isFr_small (n := (ns.take k).sum) (d := D) (by omega) hD2 hs.1 hs.2
    have hok := ok_small (n := (ns.take (k + 1)).sum) (d := D) (by omega) hD2 hs1.1 hs1.2
    have hat : (l.map frL).getD k [] = frL (l.getD k (0, 0)) := by
      have h1 : k < l.length := by omega
      rw [getD_inL (by rw [List.length_map]; exact h1), List.getElem_map, getD_inL h1]
    have hadd := addFracs_f hfr (hf k hk')
    rw [← hsum, hok] at hadd
    generalize l.getD k (0, 0) = p at hat hadd
    (repeat (first | refine g1 ?_ | refine g2 ?_ | ((first | refine g3 ?_ | refine g4 ?_ | refine g5 ?_); try simp only [xq, simprocAttr]) | ((first | refine g6 ?_ | refine g7 ?_); simp only [xr, simprocAttr]; repeat (guard_target =~ _ ∧ _; refine ⟨by first | trivial | (unfold I64; omega) | omega | (simp <;> omega) | (intros; omega), ?_⟩))))
    rw [hat]
    simp only [xr, simprocAttr]
    (repeat (first | refine g1 ?_ | refine g2 ?_ | ((first | refine g3 ?_ | refine g4 ?_ | refine g5 ?_); try simp only [xq, simprocAttr]) | ((first | refine g6 ?_ | refine g7 ?_); simp only [xr, simprocAttr]; repeat (guard_target =~ _ ∧ _; refine ⟨by first | trivial | (unfold I64; omega) | omega | (simp <;> omega) | (intros; omega), ?_⟩))))
    ((try refine Or.inl ?_); refine ⟨_, hadd, .inr (by and_intros <;> first | rfl | (simp; done)), ?_⟩; (try simp only [xr, simprocAttr]); repeat (guard_target =~ _ ∧ _; refine ⟨by first | trivial | (unfold I64; omega) | omega | (simp <;> omega) | (intros; omega), ?_⟩))
    (repeat (first | refine g1 ?_ | refine g2 ?_ | ((first | refine g3 ?_ | refine g4 ?_ | refine g5 ?_); try simp only [xq, simprocAttr]) | ((first | refine g6 ?_ | refine g7 ?_); simp only [xr, simprocAttr]; repeat (guard_target =~ _ ∧ _; refine ⟨by first | trivial | (unfold I64; omega) | omega | (simp <;> omega) | (intros; omega), ?_⟩))))
    refine awp_cond (by first | rfl | (simp only [xr, simprocAttr]; rfl)) (fun hd => ?_) (fun hd => ?_)
    · cases hd
    (repeat (first | refine g1 ?_ | refine g2 ?_ | ((first | refine g3 ?_ | refine g4 ?_ | refine g5 ?_); try simp only [xq, simprocAttr]) | ((first | refine g6 ?_ | refine g7 ?_); simp only [xr, simprocAttr]; repeat (guard_target =~ _ ∧ _; refine ⟨by first | trivial | (unfold I64; omega) | omega | (simp <;> omega) | (intros; omega), ?_⟩))))
    refine ⟨k + 1, by omega, by omega, .inr ⟨2, Nat.le_of_ble_eq_true rfl, leT_of ?_ rfl rfl rfl⟩⟩
    ((try simp only [xk]); (repeat (refine leK_cons ?_ ?_; first | (focus (first | rfl | (simp only [xr, simprocAttr]; done) | (simp only [xr, simprocAttr]; refine int_eq1 ?_; first | trivial | (unfold I64; omega) | omega | (simp <;> omega) | (intros; omega)))) | rotate_left)); (refine leK_nil ?_; exact (by rfl)); (all_goals (try (simp only [xr, simprocAttr]; try refine int_eq1 ?_))))
  · have hk' : k = ns.length := by have := of_decide_eq_false hc; omega
    subst hk'
    rw [List.take_length]
    (repeat (first | refine g1 ?_ | refine g2 ?_ | ((first | refine g3 ?_ | refine g4 ?_ | refine g5 ?_); try simp only [xq, simprocAttr]) | ((first | refine g6 ?_ | refine g7 ?_); simp only [xr, simprocAttr]; repeat (guard_target =~ _ ∧ _; refine ⟨by first | trivial | (unfold I64; omega) | omega | (simp <;> omega) | (intros; omega), ?_⟩))))
    (simp only [xec, simprocAttr]; refine ⟨[_, _], ⟨⟨by simp only [xr, simprocAttr] <;> (and_intros <;> first | trivial | (unfold I64; omega) | omega | (simp <;> omega) | (intros; omega)), rfl⟩, rfl, trivial⟩, rfl, Imp.eq ?_⟩)
    rfl
theorem harmonic_f (n : Nat) (hn : n ≤ 6) : Does Try.prog 92 [.int n] (.imm (.tup [frT (mkFr (hN n) 60), blT true])) := by
  have key : ∀ k, k ≤ n → (((List.range n).map fun (i : Nat) => (60 : Int) / ((i : Int) + 1)).take k).sum = hN k := fun k => by
    induction k with
    | zero => intro _; rfl
    | succ k ih =>
      intro hk
      rw [take_getD (by simp; omega) 0, List.sum_append, ih (by omega), hN_next (by omega)]
      simp [show k < n by omega]
  have hs := sumFracs_f 60 (by decide) (by decide) ((List.range n).map fun (i : Nat) => ((1 : Int), (i : Int) + 1)) ((List.range n).map fun (i : Nat) => (60 : Int) / ((i : Int) + 1)) (by simp) (by simp; omega) (fun k hk => by
    have hk : k < n := by simpa using hk
    simp only [List.getD_eq_getElem?_getD, List.getElem?_map, List.getElem?_range hk, Option.map_some, Option.getD_some]
    exact fr_inv (by omega)) (fun k hk => by
    have := hN_bd k
    rw [key k (by simpa using hk)]
    omega)
  have hk := key n (Nat.le_refl _)
  rw [List.take_of_length_le (by simp)] at hk
  rw [hk] at hs
  refine spec_imm Try.func92 rfl Try.ntmps92 cfOK (fun _ _ => by kernel_rfl) rfl (Nat.le_of_ble_eq_true rfl) ?_
  intro M0 w0
  rw [Try.results92]
  (repeat (first | refine g1 ?_ | refine g2 ?_ | ((first | refine g3 ?_ | refine g4 ?_ | refine g5 ?_); try simp only [xq, simprocAttr]) | ((first | refine g6 ?_ | refine g7 ?_); simp only [xr, simprocAttr]; repeat (guard_target =~ _ ∧ _; refine ⟨by first | trivial | (unfold I64; omega) | omega | (simp <;> omega) | (intros; omega), ?_⟩))))
  ((try refine Or.inl ?_); refine ⟨_, (within_e _ _ _), .inl rfl, ?_⟩; (try simp only [xr, simprocAttr]); repeat (guard_target =~ _ ∧ _; refine ⟨by first | trivial | (unfold I64; omega) | omega | (simp <;> omega) | (intros; omega), ?_⟩))
  (repeat (first | refine g1 ?_ | refine g2 ?_ | ((first | refine g3 ?_ | refine g4 ?_ | refine g5 ?_); try simp only [xq, simprocAttr]) | ((first | refine g6 ?_ | refine g7 ?_); simp only [xr, simprocAttr]; repeat (guard_target =~ _ ∧ _; refine ⟨by first | trivial | (unfold I64; omega) | omega | (simp <;> omega) | (intros; omega), ?_⟩))))
  rw [rng_yes (by omega) (by omega)]
  refine awp_cond (by first | rfl | (simp only [xr, simprocAttr]; rfl)) (fun hc => ?_) (fun hc => ?_)
  · cases hc
  (repeat (first | refine g1 ?_ | refine g2 ?_ | ((first | refine g3 ?_ | refine g4 ?_ | refine g5 ?_); try simp only [xq, simprocAttr]) | ((first | refine g6 ?_ | refine g7 ?_); simp only [xr, simprocAttr]; repeat (guard_target =~ _ ∧ _; refine ⟨by first | trivial | (unfold I64; omega) | omega | (simp <;> omega) | (intros; omega), ?_⟩))))
  refine awp_rounds (α := Nat) (fun k => [(12, true, .int k)]) [2, 4, 11] (fun k => [.box [.b (.val (.int .i64 0)), .b (.val (.int .i64 0))], .row 41 (.k 2 ((List.range k).map fun (i : Nat) => [(1 : Int), (i : Int) + 1]))]) (fun k => k ≤ n) (fun k => n - k) 0 (by ((try simp only [xk]); (repeat (refine leK_cons ?_ ?_; first | (focus (first | rfl | (simp only [xr, simprocAttr]; done) | (simp only [xr, simprocAttr]; refine int_eq1 ?_; first | trivial | (unfold I64; omega) | omega | (simp <;> omega) | (intros; omega)))) | rotate_left)); (refine leK_nil ?_; exact (by rfl)); (all_goals (try (simp only [xr, simprocAttr]; try refine int_eq1 ?_))))) (Nat.zero_le _) fun k hk => ?_
  have hrl : ((List.range k).map fun (i : Nat) => [(1 : Int), (i : Int) + 1]).length = k := by simp
  simp only [xr, simprocAttr]
  (repeat (first | refine g1 ?_ | refine g2 ?_ | ((first | refine g3 ?_ | refine g4 ?_ | refine g5 ?_); try simp only [xq, simprocAttr]) | ((first | refine g6 ?_ | refine g7 ?_); simp only [xr, simprocAttr]; repeat (guard_target =~ _ ∧ _; refine ⟨by first | trivial | (unfold I64; omega) | omega | (simp <;> omega) | (intros; omega), ?_⟩))))
  refine awp_cond (by first | rfl | (simp only [xr, simprocAttr]; rfl)) (fun hc => ?_) (fun hc => ?_)
  · have hk' : k < n := by have := of_decide_eq_true hc; omega
    (repeat (first | refine g1 ?_ | refine g2 ?_ | ((first | refine g3 ?_ | refine g4 ?_ | refine g5 ?_); try simp only [xq, simprocAttr]) | ((first | refine g6 ?_ | refine g7 ?_); simp only [xr, simprocAttr]; repeat (guard_target =~ _ ∧ _; refine ⟨by first | trivial | (unfold I64; omega) | omega | (simp <;> omega) | (intros; omega), ?_⟩))))
    refine ⟨k + 1, by omega, by omega, .inl ?_⟩
    ((try simp only [xk]); (repeat (refine leK_cons ?_ ?_; first | (focus (first | rfl | (simp only [xr, simprocAttr]; done) | (simp only [xr, simprocAttr]; refine int_eq1 ?_; first | trivial | (unfold I64; omega) | omega | (simp <;> omega) | (intros; omega)))) | rotate_left)); (refine leK_nil ?_; exact (by rw [List.range_succ, List.map_append]; rfl)); (all_goals (try (simp only [xr, simprocAttr]; try refine int_eq1 ?_))))
  · have hk' : k = n := by have := of_decide_eq_false hc; omega
    subst hk'
    have e : ((List.range k).map fun (i : Nat) => [(1 : Int), (i : Int) + 1]) = (((List.range k).map fun (i : Nat) => ((1 : Int), (i : Int) + 1)).map frL) := by rw [List.map_map]; rfl
    rw [e]
    (repeat (first | refine g1 ?_ | refine g2 ?_ | ((first | refine g3 ?_ | refine g4 ?_); try simp only [xq, simprocAttr])))
    (refine awp_frz 1 rfl ?_; simp only [xz, simprocAttr])
    (repeat (first | refine g1 ?_ | refine g2 ?_ | ((first | refine g3 ?_ | refine g4 ?_ | refine g5 ?_); try simp only [xq, simprocAttr]) | ((first | refine g6 ?_ | refine g7 ?_); simp only [xr, simprocAttr]; repeat (guard_target =~ _ ∧ _; refine ⟨by first | trivial | (unfold I64; omega) | omega | (simp <;> omega) | (intros; omega), ?_⟩))))
    ((try refine Or.inl ?_); refine ⟨_, hs, .inr (by and_intros <;> first | rfl | (simp; done)), ?_⟩; (try simp only [xr, simprocAttr]); repeat (guard_target =~ _ ∧ _; refine ⟨by first | trivial | (unfold I64; omega) | omega | (simp <;> omega) | (intros; omega), ?_⟩))
    (repeat (first | refine g1 ?_ | refine g2 ?_ | ((first | refine g3 ?_ | refine g4 ?_ | refine g5 ?_); try simp only [xq, simprocAttr]) | ((first | refine g6 ?_ | refine g7 ?_); simp only [xr, simprocAttr]; repeat (guard_target =~ _ ∧ _; refine ⟨by first | trivial | (unfold I64; omega) | omega | (simp <;> omega) | (intros; omega), ?_⟩))))
    (simp only [xec, simprocAttr]; refine ⟨[_, _], ⟨⟨by simp only [xr, simprocAttr] <;> (and_intros <;> first | trivial | (unfold I64; omega) | omega | (simp <;> omega) | (intros; omega)), rfl⟩, rfl, trivial⟩, rfl, Imp.eq ?_⟩)
    rfl
theorem l2Harmonic_f (n : Nat) (hn : n ≤ 6) : Does Try.prog 138 [.int n] (.imm (frA (mkFr (hN n) 60))) := by
  have h0 := fr_zero (D := 60) (by decide)
  refine spec_imm Try.func138 rfl Try.ntmps138 cfOK (fun _ _ => by kernel_rfl) rfl (Nat.le_of_ble_eq_true rfl) ?_
  intro M0 w0
  rw [Try.results138]
  (repeat (first | refine g1 ?_ | refine g2 ?_ | ((first | refine g3 ?_ | refine g4 ?_ | refine g5 ?_); try simp only [xq, simprocAttr]) | ((first | refine g6 ?_ | refine g7 ?_); simp only [xr, simprocAttr]; repeat (guard_target =~ _ ∧ _; refine ⟨by first | trivial | (unfold I64; omega) | omega | (simp <;> omega) | (intros; omega), ?_⟩))))
  refine awp_rounds (α := Nat) (fun k => [(4, true, .int ((k + 1 : Nat) : Int))]) [0, 2, 3] (fun k => [.box [.b (.val (.int .i64 0)), .b (.val (.int .i64 0))], .box [.b (.val (.int .i64 (mkFr (hN k) 60).1)), .b (.val (.int .i64 (mkFr (hN k) 60).2))]]) (fun k => k ≤ n) (fun k => n - k) 0 (by ((try simp only [xk]); (repeat (refine leK_cons ?_ ?_; first | (focus (first | rfl | (simp only [xr, simprocAttr]; done) | (simp only [xr, simprocAttr]; refine int_eq1 ?_; first | trivial | (unfold I64; omega) | omega | (simp <;> omega) | (intros; omega)))) | rotate_left)); (refine leK_nil ?_; exact (by rw [show hN 0 = 0 from rfl, h0])); (all_goals (try (simp only [xr, simprocAttr]; try refine int_eq1 ?_))))) (Nat.zero_le _) fun k hk => ?_
  simp only [xr, simprocAttr]
  (repeat (first | refine g1 ?_ | refine g2 ?_ | ((first | refine g3 ?_ | refine g4 ?_ | refine g5 ?_); try simp only [xq, simprocAttr]) | ((first | refine g6 ?_ | refine g7 ?_); simp only [xr, simprocAttr]; repeat (guard_target =~ _ ∧ _; refine ⟨by first | trivial | (unfold I64; omega) | omega | (simp <;> omega) | (intros; omega), ?_⟩))))
  refine awp_cond (by first | rfl | (simp only [xr, simprocAttr]; rfl)) (fun hc => ?_) (fun hc => ?_)
  · have hk' : k < n := by have := of_decide_eq_true hc; omega
    have hb := hN_bd (k + 1)
    have hadd := l2Add_f (fr_har k) (fr_inv (n := k) (by omega))
    rw [← hN_next (by omega)] at hadd
    have e : (((k + 1 : Nat) : Int)) = (k : Int) + 1 := by omega
    rw [e]
    (repeat (first | refine g1 ?_ | refine g2 ?_ | ((first | refine g3 ?_ | refine g4 ?_ | refine g5 ?_); try simp only [xq, simprocAttr]) | ((first | refine g6 ?_ | refine g7 ?_); simp only [xr, simprocAttr]; repeat (guard_target =~ _ ∧ _; refine ⟨by first | trivial | (unfold I64; omega) | omega | (simp <;> omega) | (intros; omega), ?_⟩))))
    ((try refine Or.inl ?_); refine ⟨_, hadd, .inr (by and_intros <;> first | rfl | (simp; done)), ?_⟩; (try simp only [xr, simprocAttr]); repeat (guard_target =~ _ ∧ _; refine ⟨by first | trivial | (unfold I64; omega) | omega | (simp <;> omega) | (intros; omega), ?_⟩))
    (repeat (first | refine g1 ?_ | refine g2 ?_ | ((first | refine g3 ?_ | refine g4 ?_ | refine g5 ?_); try simp only [xq, simprocAttr]) | ((first | refine g6 ?_ | refine g7 ?_); simp only [xr, simprocAttr]; repeat (guard_target =~ _ ∧ _; refine ⟨by first | trivial | (unfold I64; omega) | omega | (simp <;> omega) | (intros; omega), ?_⟩))))
    refine ⟨k + 1, by omega, by omega, .inl ?_⟩
    ((try simp only [xk]); (repeat (refine leK_cons ?_ ?_; first | (focus (first | rfl | (simp only [xr, simprocAttr]; done) | (simp only [xr, simprocAttr]; refine int_eq1 ?_; first | trivial | (unfold I64; omega) | omega | (simp <;> omega) | (intros; omega)))) | rotate_left)); (refine leK_nil ?_; exact (by rfl)); (all_goals (try (simp only [xr, simprocAttr]; try refine int_eq1 ?_))))
  · have hk' : k = n := by have := of_decide_eq_false hc; omega
    subst hk'
    (repeat (first | refine g1 ?_ | refine g2 ?_ | ((first | refine g3 ?_ | refine g4 ?_ | refine g5 ?_); try simp only [xq, simprocAttr]) | ((first | refine g6 ?_ | refine g7 ?_); simp only [xr, simprocAttr]; repeat (guard_target =~ _ ∧ _; refine ⟨by first | trivial | (unfold I64; omega) | omega | (simp <;> omega) | (intros; omega), ?_⟩))))
    (simp only [xec, simprocAttr]; refine ⟨_, ⟨by simp only [xr, simprocAttr] <;> (and_intros <;> first | trivial | (unfold I64; omega) | omega | (simp <;> omega) | (intros; omega)), rfl⟩, rfl, Imp.eq ?_⟩)
    rfl
theorem l11Times_f (c s : Nat) (hc : c ≤ 6) (hs : s ≤ 6) : Does Try.prog 91 [.int c, .int s] (.imm (frA (mkFr (mbT s c) 60))) := by
  have h1 := hN_bd s
  have h2 := hN_bd c
  have hsub := l2Sub_f (fr_har s) (fr_har c)
  have hf1 := isFr_small (n := hN s - hN c) (d := 60) (by decide) (by decide) (by omega) (by omega)
  have h11 : IsFr (1, 1) 60 60 := ⟨by decide +kernel, by decide, by decide⟩
  have hadd := l2Add_f hf1 h11
  have hf2 := isFr_small (n := hN s - hN c + 60) (d := 60) (by decide) (by decide) (by omega) (by omega)
  have hmul := l2Mul_f (isFr_int (c := (c : Int)) (by omega) (by omega)) hf2 ⟨by omega, by omega⟩
  rw [show (c : Int) * (hN s - hN c + 60) = mbT s c from Int.mul_comm _ _, show (1 : Int) * 60 = 60 from rfl] at hmul
  refine spec_imm Try.func91 rfl Try.ntmps91 cfOK (fun _ _ => by kernel_rfl) rfl (Nat.le_of_ble_eq_true rfl) ?_
  intro M0 w0
  rw [Try.results91]
  (repeat (first | refine g1 ?_ | refine g2 ?_ | ((first | refine g3 ?_ | refine g4 ?_ | refine g5 ?_); try simp only [xq, simprocAttr]) | ((first | refine g6 ?_ | refine g7 ?_); simp only [xr, simprocAttr]; repeat (guard_target =~ _ ∧ _; refine ⟨by first | trivial | (unfold I64; omega) | omega | (simp <;> omega) | (intros; omega), ?_⟩))))
  ((try refine Or.inl ?_); refine ⟨_, (l2Harmonic_f s hs), .inr (by and_intros <;> first | rfl | (simp; done)), ?_⟩; (try simp only [xr, simprocAttr]); repeat (guard_target =~ _ ∧ _; refine ⟨by first | trivial | (unfold I64; omega) | omega | (simp <;> omega) | (intros; omega), ?_⟩))
  (repeat (first | refine g1 ?_ | refine g2 ?_ | ((first | refine g3 ?_ | refine g4 ?_ | refine g5 ?_); try simp only [xq, simprocAttr]) | ((first | refine g6 ?_ | refine g7 ?_); simp only [xr, simprocAttr]; repeat (guard_target =~ _ ∧ _; refine ⟨by first | trivial | (unfold I64; omega) | omega | (simp <;> omega) | (intros; omega), ?_⟩))))
  ((try refine Or.inl ?_); refine ⟨_, (l2Harmonic_f c hc), .inr (by and_intros <;> first | rfl | (simp; done)), ?_⟩; (try simp only [xr, simprocAttr]); repeat (guard_target =~ _ ∧ _; refine ⟨by first | trivial | (unfold I64; omega) | omega | (simp <;> omega) | (intros; omega), ?_⟩))
  (repeat (first | refine g1 ?_ | refine g2 ?_ | ((first | refine g3 ?_ | refine g4 ?_ | refine g5 ?_); try simp only [xq, simprocAttr]) | ((first | refine g6 ?_ | refine g7 ?_); simp only [xr, simprocAttr]; repeat (guard_target =~ _ ∧ _; refine ⟨by first | trivial | (unfold I64; omega) | omega | (simp <;> omega) | (intros; omega), ?_⟩))))
  ((try refine Or.inl ?_); refine ⟨_, hsub, .inr (by and_intros <;> first | rfl | (simp; done)), ?_⟩; (try simp only [xr, simprocAttr]); repeat (guard_target =~ _ ∧ _; refine ⟨by first | trivial | (unfold I64; omega) | omega | (simp <;> omega) | (intros; omega), ?_⟩))
  (repeat (first | refine g1 ?_ | refine g2 ?_ | ((first | refine g3 ?_ | refine g4 ?_ | refine g5 ?_); try simp only [xq, simprocAttr]) | ((first | refine g6 ?_ | refine g7 ?_); simp only [xr, simprocAttr]; repeat (guard_target =~ _ ∧ _; refine ⟨by first | trivial | (unfold I64; omega) | omega | (simp <;> omega) | (intros; omega), ?_⟩))))
  ((try refine Or.inl ?_); refine ⟨_, hadd, .inr (by and_intros <;> first | rfl | (simp; done)), ?_⟩; (try simp only [xr, simprocAttr]); repeat (guard_target =~ _ ∧ _; refine ⟨by first | trivial | (unfold I64; omega) | omega | (simp <;> omega) | (intros; omega), ?_⟩))
  (repeat (first | refine g1 ?_ | refine g2 ?_ | ((first | refine g3 ?_ | refine g4 ?_ | refine g5 ?_); try simp only [xq, simprocAttr]) | ((first | refine g6 ?_ | refine g7 ?_); simp only [xr, simprocAttr]; repeat (guard_target =~ _ ∧ _; refine ⟨by first | trivial | (unfold I64; omega) | omega | (simp <;> omega) | (intros; omega), ?_⟩))))
  ((try refine Or.inl ?_); refine ⟨_, hmul, .inr (by and_intros <;> first | rfl | (simp; done)), ?_⟩; (try simp only [xr, simprocAttr]); repeat (guard_target =~ _ ∧ _; refine ⟨by first | trivial | (unfold I64; omega) | omega | (simp <;> omega) | (intros; omega), ?_⟩))
  (repeat (first | refine g1 ?_ | refine g2 ?_ | ((first | refine g3 ?_ | refine g4 ?_ | refine g5 ?_); try simp only [xq, simprocAttr]) | ((first | refine g6 ?_ | refine g7 ?_); simp only [xr, simprocAttr]; repeat (guard_target =~ _ ∧ _; refine ⟨by first | trivial | (unfold I64; omega) | omega | (simp <;> omega) | (intros; omega), ?_⟩))))
  (simp only [xec, simprocAttr]; refine ⟨_, ⟨by simp only [xr, simprocAttr] <;> (and_intros <;> first | trivial | (unfold I64; omega) | omega | (simp <;> omega) | (intros; omega)), rfl⟩, rfl, Imp.eq ?_⟩)
  rfl
theorem cleanCounts_d (size : Int) (xs : List Int) (hn : xs.length ≤ 60) : Does Try.prog 89 [.int size, .sl (.ints xs)] (.imm (.sl (.ints (clnV size xs)))) := imm_of (cleanCounts_h size xs hn)
set_option maxHeartbeats 1000000 in
theorem impl_MarkBound_d (n size : Int) (xs : List Int) : Does Try.prog 47 [.int n, .int size, .sl (.ints xs)] (.imm (.tup [frT (if szB n size xs = true then mbV size xs else (0, 0)), blT (szB n size xs)])) := by
  refine spec_imm Try.func47 rfl Try.ntmps47 cfOK (fun _ _ => by kernel_rfl) rfl (Nat.le_of_ble_eq_true rfl) ?_
  intro M0 w0
  rw [Try.results47]
  (repeat (first | refine g1 ?_ | refine g2 ?_ | ((first | refine g3 ?_ | refine g4 ?_ | refine g5 ?_); try simp only [xq, simprocAttr]) | ((first | refine g6 ?_ | refine g7 ?_); simp only [xr, simprocAttr]; repeat (guard_target =~ _ ∧ _; refine ⟨by first | trivial | (unfold I64; omega) | omega | (simp <;> omega) | (intros; omega), ?_⟩))))
  ((try refine Or.inl ?_); refine ⟨_, (isSize_d size), .inl rfl, ?_⟩; (try simp only [xr, simprocAttr]); repeat (guard_target =~ _ ∧ _; refine ⟨by first | trivial | (unfold I64; omega) | omega | (simp <;> omega) | (intros; omega), ?_⟩))
  (repeat (first | refine g1 ?_ | refine g2 ?_ | ((first | refine g3 ?_ | refine g4 ?_ | refine g5 ?_); try simp only [xq, simprocAttr]) | ((first | refine g6 ?_ | refine g7 ?_); simp only [xr, simprocAttr]; repeat (guard_target =~ _ ∧ _; refine ⟨by first | trivial | (unfold I64; omega) | omega | (simp <;> omega) | (intros; omega), ?_⟩))))
  ((try refine Or.inl ?_); refine ⟨_, (fun _ => isRequests_d n xs), .inl rfl, ?_⟩; (try simp only [xr, simprocAttr]); repeat (guard_target =~ _ ∧ _; refine ⟨by first | trivial | (unfold I64; omega) | omega | (simp <;> omega) | (intros; omega), ?_⟩))
  (repeat (first | refine g1 ?_ | refine g2 ?_ | ((first | refine g3 ?_ | refine g4 ?_ | refine g5 ?_); try simp only [xq, simprocAttr]) | ((first | refine g6 ?_ | refine g7 ?_); simp only [xr, simprocAttr]; repeat (guard_target =~ _ ∧ _; refine ⟨by first | trivial | (unfold I64; omega) | omega | (simp <;> omega) | (intros; omega), ?_⟩))))
  rw [szB_bif]
  cases hb : szB n size xs
  · rw [if_neg (by decide)]
    refine awp_cond (by first | rfl | (simp only [xr, simprocAttr]; rfl)) (fun hc => ?_) (fun hc => ?_)
    · (repeat (first | refine g1 ?_ | refine g2 ?_ | ((first | refine g3 ?_ | refine g4 ?_ | refine g5 ?_); try simp only [xq, simprocAttr]) | ((first | refine g6 ?_ | refine g7 ?_); simp only [xr, simprocAttr]; repeat (guard_target =~ _ ∧ _; refine ⟨by first | trivial | (unfold I64; omega) | omega | (simp <;> omega) | (intros; omega), ?_⟩))))
      (simp only [xec, simprocAttr]; refine ⟨[_, _], ⟨⟨by simp only [xr, simprocAttr] <;> (and_intros <;> first | trivial | (unfold I64; omega) | omega | (simp <;> omega) | (intros; omega)), rfl⟩, rfl, trivial⟩, rfl, Imp.eq ?_⟩)
      rfl
    · cases hc
  · rw [if_pos rfl]
    have hok := sz_ok hb
    have hs1 := hok.s1
    have hs2 := hok.s2
    have hlen := hok.len
    obtain ⟨s, rfl⟩ : ∃ s : Nat, size = (s : Int) := ⟨size.toNat, by omega⟩
    have h0 := fr_zero (D := 60) (by decide)
    have hpn := phL_len (size := (s : Int)) (xs := xs) xs.length
    have hcl := clnK_len (s : Int) xs (phL (s : Int) xs xs.length).length
    have hcc := cleanCounts_d (s : Int) xs hlen
    unfold clnV at hcc
    unfold mbV
    refine awp_cond (by first | rfl | (simp only [xr, simprocAttr]; rfl)) (fun hc => ?_) (fun hc => ?_)
    · cases hc
    (repeat (first | refine g1 ?_ | refine g2 ?_ | ((first | refine g3 ?_ | refine g4 ?_ | refine g5 ?_); try simp only [xq, simprocAttr]) | ((first | refine g6 ?_ | refine g7 ?_); simp only [xr, simprocAttr]; repeat (guard_target =~ _ ∧ _; refine ⟨by first | trivial | (unfold I64; omega) | omega | (simp <;> omega) | (intros; omega), ?_⟩))))
    ((try refine Or.inl ?_); refine ⟨_, (harmonic_f s (by omega)), .inr (by and_intros <;> first | rfl | (simp; done)), ?_⟩; (try simp only [xr, simprocAttr]); repeat (guard_target =~ _ ∧ _; refine ⟨by first | trivial | (unfold I64; omega) | omega | (simp <;> omega) | (intros; omega), ?_⟩))
    (repeat (first | refine g1 ?_ | refine g2 ?_ | ((first | refine g3 ?_ | refine g4 ?_ | refine g5 ?_); try simp only [xq, simprocAttr]) | ((first | refine g6 ?_ | refine g7 ?_); simp only [xr, simprocAttr]; repeat (guard_target =~ _ ∧ _; refine ⟨by first | trivial | (unfold I64; omega) | omega | (simp <;> omega) | (intros; omega), ?_⟩))))
    ((try refine Or.inl ?_); refine ⟨_, hcc, .inr (by and_intros <;> first | rfl | (simp; done)), ?_⟩; (try simp only [xr, simprocAttr]); repeat (guard_target =~ _ ∧ _; refine ⟨by first | trivial | (unfold I64; omega) | omega | (simp <;> omega) | (intros; omega), ?_⟩))
    (repeat (first | refine g1 ?_ | refine g2 ?_ | ((first | refine g3 ?_ | refine g4 ?_ | refine g5 ?_); try simp only [xq, simprocAttr]) | ((first | refine g6 ?_ | refine g7 ?_); simp only [xr, simprocAttr]; repeat (guard_target =~ _ ∧ _; refine ⟨by first | trivial | (unfold I64; omega) | omega | (simp <;> omega) | (intros; omega), ?_⟩))))
    refine awp_rounds (α := Nat) (fun k => [(38, true, .int k)]) [1, 6, 8, 10, 36, 37] (fun k => [.box [.b (.val (.int .i64 0)), .b (.val (.int .i64 0))], .box [.b (.val (.int .i64 (mkFr (mbS s xs k) 60).1)), .b (.val (.int .i64 (mkFr (mbS s xs k) 60).2))], .box [.b (.val (.int .i64 (mkFr (hN s) 60).1)), .b (.val (.int .i64 (mkFr (hN s) 60).2))]]) (fun k => k ≤ (phL (s : Int) xs xs.length).length) (fun k => (phL (s : Int) xs xs.length).length - k) 0 (by ((try simp only [xk]); (repeat (refine leK_cons ?_ ?_; first | (focus (first | rfl | (simp only [xr, simprocAttr]; done) | (simp only [xr, simprocAttr]; refine int_eq1 ?_; first | trivial | (unfold I64; omega) | omega | (simp <;> omega) | (intros; omega)))) | rotate_left)); (refine leK_nil ?_; exact (by rw [show mbS s xs 0 = 0 from rfl, h0])); (all_goals (try (simp only [xr, simprocAttr]; try refine int_eq1 ?_))))) (Nat.zero_le _) fun k hk => ?_
    simp only [xr, simprocAttr]
    (repeat (first | refine g1 ?_ | refine g2 ?_ | ((first | refine g3 ?_ | refine g4 ?_ | refine g5 ?_); try simp only [xq, simprocAttr]) | ((first | refine g6 ?_ | refine g7 ?_); simp only [xr, simprocAttr]; repeat (guard_target =~ _ ∧ _; refine ⟨by first | trivial | (unfold I64; omega) | omega | (simp <;> omega) | (intros; omega), ?_⟩))))
    refine awp_cond (by first | rfl | (simp only [xr, simprocAttr]; rfl)) (fun hc2 => ?_) (fun hc2 => ?_)
    · have hk' : k < (phL (s : Int) xs xs.length).length := by have := of_decide_eq_true hc2; omega
      have hcs := cnt_size (xs := xs) hs1 hk'
      have hat : (clnK (s : Int) xs (phL (s : Int) xs xs.length).length).getD k 0 = ((opn (ownP (s : Int) xs k) (prvP (s : Int) xs k)).length : Int) := by
        unfold clnK
        rw [List.getD_eq_getElem?_getD, List.getElem?_map, List.getElem?_range hk']
        rfl
      have hS1 := mbS_bd (xs := xs) hs1 hs2 k hk
      have hS2 := mbS_bd (xs := xs) hs1 hs2 (k + 1) hk'
      have hnx : mbS s xs (k + 1) = mbS s xs k + mbT s (opn (ownP (s : Int) xs k) (prvP (s : Int) xs k)).length := by simp [mbS]
      generalize (opn (ownP (s : Int) xs k) (prvP (s : Int) xs k)).length = c at hcs hat hnx
      have h1 := hN_bd s
      have h2 := hN_bd c
      have hsub := subFracs_f (fr_har s) (fr_har c)
      have hf1 := isFr_small (n := hN s - hN c) (d := 60) (by decide) (by decide) (by omega) (by omega)
      have h11 : IsFr (1, 1) 60 60 := ⟨by decide +kernel, by decide, by decide⟩
      have hadd := addFracs_f hf1 h11
      have hf2 := isFr_small (n := hN s - hN c + 60) (d := 60) (by decide) (by decide) (by omega) (by omega)
      have hmul := mulFracs_f hf2 (isFr_int (c := (c : Int)) (by omega) (by omega)) ⟨by simp <;> omega, by simp <;> omega⟩
      rw [show (hN s - hN c + 60) * (c : Int) = mbT s c from rfl, show (60 : Int) * 1 = 60 from rfl] at hmul
      have hT := mbT_bd (s := s) (c := c) (by omega)
      have hf3 := isFr_small (n := mbT s c) (d := 60) (by decide) (by decide) (by omega) (by omega)
      have hf4 := isFr_small (n := mbS s xs k) (d := 60) (by decide) (by decide) (by omega) (by omega)
      have hlast := addFracs_f hf4 hf3
      rw [← hnx, ok_small (by decide) (by decide) (by omega) (by omega)] at hlast
      (repeat (first | refine g1 ?_ | refine g2 ?_ | ((first | refine g3 ?_ | refine g4 ?_ | refine g5 ?_); try simp only [xq, simprocAttr]) | ((first | refine g6 ?_ | refine g7 ?_); simp only [xr, simprocAttr]; repeat (guard_target =~ _ ∧ _; refine ⟨by first | trivial | (unfold I64; omega) | omega | (simp <;> omega) | (intros; omega), ?_⟩))))
      rw [hat]
      (repeat (first | refine g1 ?_ | refine g2 ?_ | ((first | refine g3 ?_ | refine g4 ?_ | refine g5 ?_); try simp only [xq, simprocAttr]) | ((first | refine g6 ?_ | refine g7 ?_); simp only [xr, simprocAttr]; repeat (guard_target =~ _ ∧ _; refine ⟨by first | trivial | (unfold I64; omega) | omega | (simp <;> omega) | (intros; omega), ?_⟩))))
      ((try refine Or.inl ?_); refine ⟨_, (harmonic_f c (by omega)), .inr (by and_intros <;> first | rfl | (simp; done)), ?_⟩; (try simp only [xr, simprocAttr]); repeat (guard_target =~ _ ∧ _; refine ⟨by first | trivial | (unfold I64; omega) | omega | (simp <;> omega) | (intros; omega), ?_⟩))
      (repeat (first | refine g1 ?_ | refine g2 ?_ | ((first | refine g3 ?_ | refine g4 ?_ | refine g5 ?_); try simp only [xq, simprocAttr]) | ((first | refine g6 ?_ | refine g7 ?_); simp only [xr, simprocAttr]; repeat (guard_target =~ _ ∧ _; refine ⟨by first | trivial | (unfold I64; omega) | omega | (simp <;> omega) | (intros; omega), ?_⟩))))
      ((try refine Or.inl ?_); refine ⟨_, hsub, .inr (by and_intros <;> first | rfl | (simp; done)), ?_⟩; (try simp only [xr, simprocAttr]); repeat (guard_target =~ _ ∧ _; refine ⟨by first | trivial | (unfold I64; omega) | omega | (simp <;> omega) | (intros; omega), ?_⟩))
      (repeat (first | refine g1 ?_ | refine g2 ?_ | ((first | refine g3 ?_ | refine g4 ?_ | refine g5 ?_); try simp only [xq, simprocAttr]) | ((first | refine g6 ?_ | refine g7 ?_); simp only [xr, simprocAttr]; repeat (guard_target =~ _ ∧ _; refine ⟨by first | trivial | (unfold I64; omega) | omega | (simp <;> omega) | (intros; omega), ?_⟩))))
      ((try refine Or.inl ?_); refine ⟨_, hadd, .inr (by and_intros <;> first | rfl | (simp; done)), ?_⟩; (try simp only [xr, simprocAttr]); repeat (guard_target =~ _ ∧ _; refine ⟨by first | trivial | (unfold I64; omega) | omega | (simp <;> omega) | (intros; omega), ?_⟩))
      (repeat (first | refine g1 ?_ | refine g2 ?_ | ((first | refine g3 ?_ | refine g4 ?_ | refine g5 ?_); try simp only [xq, simprocAttr]) | ((first | refine g6 ?_ | refine g7 ?_); simp only [xr, simprocAttr]; repeat (guard_target =~ _ ∧ _; refine ⟨by first | trivial | (unfold I64; omega) | omega | (simp <;> omega) | (intros; omega), ?_⟩))))
      ((try refine Or.inl ?_); refine ⟨_, hmul, .inr (by and_intros <;> first | rfl | (simp; done)), ?_⟩; (try simp only [xr, simprocAttr]); repeat (guard_target =~ _ ∧ _; refine ⟨by first | trivial | (unfold I64; omega) | omega | (simp <;> omega) | (intros; omega), ?_⟩))
      (repeat (first | refine g1 ?_ | refine g2 ?_ | ((first | refine g3 ?_ | refine g4 ?_ | refine g5 ?_); try simp only [xq, simprocAttr]) | ((first | refine g6 ?_ | refine g7 ?_); simp only [xr, simprocAttr]; repeat (guard_target =~ _ ∧ _; refine ⟨by first | trivial | (unfold I64; omega) | omega | (simp <;> omega) | (intros; omega), ?_⟩))))
      ((try refine Or.inl ?_); refine ⟨_, hlast, .inr (by and_intros <;> first | rfl | (simp; done)), ?_⟩; (try simp only [xr, simprocAttr]); repeat (guard_target =~ _ ∧ _; refine ⟨by first | trivial | (unfold I64; omega) | omega | (simp <;> omega) | (intros; omega), ?_⟩))
      (repeat (first | refine g1 ?_ | refine g2 ?_ | ((first | refine g3 ?_ | refine g4 ?_ | refine g5 ?_); try simp only [xq, simprocAttr]) | ((first | refine g6 ?_ | refine g7 ?_); simp only [xr, simprocAttr]; repeat (guard_target =~ _ ∧ _; refine ⟨by first | trivial | (unfold I64; omega) | omega | (simp <;> omega) | (intros; omega), ?_⟩))))
      refine awp_cond (by first | rfl | (simp only [xr, simprocAttr]; rfl)) (fun hd => ?_) (fun hd => ?_)
      · cases hd
      (repeat (first | refine g1 ?_ | refine g2 ?_ | ((first | refine g3 ?_ | refine g4 ?_ | refine g5 ?_); try simp only [xq, simprocAttr]) | ((first | refine g6 ?_ | refine g7 ?_); simp only [xr, simprocAttr]; repeat (guard_target =~ _ ∧ _; refine ⟨by first | trivial | (unfold I64; omega) | omega | (simp <;> omega) | (intros; omega), ?_⟩))))
      refine ⟨k + 1, by omega, by omega, .inr ⟨3, Nat.le_of_ble_eq_true rfl, leT_of ?_ rfl rfl rfl⟩⟩
      ((try simp only [xk]); (repeat (refine leK_cons ?_ ?_; first | (focus (first | rfl | (simp only [xr, simprocAttr]; done) | (simp only [xr, simprocAttr]; refine int_eq1 ?_; first | trivial | (unfold I64; omega) | omega | (simp <;> omega) | (intros; omega)))) | rotate_left)); (refine leK_nil ?_; exact (by rfl)); (all_goals (try (simp only [xr, simprocAttr]; try refine int_eq1 ?_))))
    · have hk' : k = (phL (s : Int) xs xs.length).length := by have := of_decide_eq_false hc2; omega
      subst hk'
      (repeat (first | refine g1 ?_ | refine g2 ?_ | ((first | refine g3 ?_ | refine g4 ?_ | refine g5 ?_); try simp only [xq, simprocAttr]) | ((first | refine g6 ?_ | refine g7 ?_); simp only [xr, simprocAttr]; repeat (guard_target =~ _ ∧ _; refine ⟨by first | trivial | (unfold I64; omega) | omega | (simp <;> omega) | (intros; omega), ?_⟩))))
      (simp only [xec, simprocAttr]; refine ⟨[_, _], ⟨⟨by simp only [xr, simprocAttr] <;> (and_intros <;> first | trivial | (unfold I64; omega) | omega | (simp <;> omega) | (intros; omega)), rfl⟩, rfl, trivial⟩, rfl, Imp.eq ?_⟩)
      rfl
set_option maxHeartbeats 1000000 in
theorem spec_MarkBound_d (n size : Int) (xs : List Int) : Does Try.prog 46 [.int n, .int size, .sl (.ints xs)] (.imm (.tup [frT (if szB n size xs = true then mbV size xs else (0, 0)), blT (szB n size xs)])) := by
  refine spec_imm Try.func46 rfl Try.ntmps46 cfOK (fun _ _ => by kernel_rfl) rfl (Nat.le_of_ble_eq_true rfl) ?_
  intro M0 w0
  rw [Try.results46]
  (repeat (first | refine g1 ?_ | refine g2 ?_ | ((first | refine g3 ?_ | refine g4 ?_ | refine g5 ?_); try simp only [xq, simprocAttr]) | ((first | refine g6 ?_ | refine g7 ?_); simp only [xr, simprocAttr]; repeat (guard_target =~ _ ∧ _; refine ⟨by first | trivial | (unfold I64; omega) | omega | (simp <;> omega) | (intros; omega), ?_⟩))))
  ((try refine Or.inl ?_); refine ⟨_, (l11Sized_d n size xs), .inl rfl, ?_⟩; (try simp only [xr, simprocAttr]); repeat (guard_target =~ _ ∧ _; refine ⟨by first | trivial | (unfold I64; omega) | omega | (simp <;> omega) | (intros; omega), ?_⟩))
  (repeat (first | refine g1 ?_ | refine g2 ?_ | ((first | refine g3 ?_ | refine g4 ?_ | refine g5 ?_); try simp only [xq, simprocAttr]) | ((first | refine g6 ?_ | refine g7 ?_); simp only [xr, simprocAttr]; repeat (guard_target =~ _ ∧ _; refine ⟨by first | trivial | (unfold I64; omega) | omega | (simp <;> omega) | (intros; omega), ?_⟩))))
  cases hb : szB n size xs
  · rw [if_neg (by decide)]
    refine awp_cond (by first | rfl | (simp only [xr, simprocAttr]; rfl)) (fun hc => ?_) (fun hc => ?_)
    · (repeat (first | refine g1 ?_ | refine g2 ?_ | ((first | refine g3 ?_ | refine g4 ?_ | refine g5 ?_); try simp only [xq, simprocAttr]) | ((first | refine g6 ?_ | refine g7 ?_); simp only [xr, simprocAttr]; repeat (guard_target =~ _ ∧ _; refine ⟨by first | trivial | (unfold I64; omega) | omega | (simp <;> omega) | (intros; omega), ?_⟩))))
      (simp only [xec, simprocAttr]; refine ⟨[_, _], ⟨⟨by simp only [xr, simprocAttr] <;> (and_intros <;> first | trivial | (unfold I64; omega) | omega | (simp <;> omega) | (intros; omega)), rfl⟩, rfl, trivial⟩, rfl, Imp.eq ?_⟩)
      rfl
    · cases hc
  · rw [if_pos rfl]
    have hok := sz_ok hb
    have hs1 := hok.s1
    have hs2 := hok.s2
    have hlen := hok.len
    obtain ⟨s, rfl⟩ : ∃ s : Nat, size = (s : Int) := ⟨size.toNat, by omega⟩
    have h0 := fr_zero (D := 60) (by decide)
    have hpn := phL_len (size := (s : Int)) (xs := xs) xs.length
    have hcl := clnK_len (s : Int) xs (phL (s : Int) xs xs.length).length
    have hcc := l11Clean_d (s : Int) xs hlen
    unfold clnV at hcc
    unfold mbV
    refine awp_cond (by first | rfl | (simp only [xr, simprocAttr]; rfl)) (fun hc => ?_) (fun hc => ?_)
    · cases hc
    (repeat (first | refine g1 ?_ | refine g2 ?_ | ((first | refine g3 ?_ | refine g4 ?_ | refine g5 ?_); try simp only [xq, simprocAttr]) | ((first | refine g6 ?_ | refine g7 ?_); simp only [xr, simprocAttr]; repeat (guard_target =~ _ ∧ _; refine ⟨by first | trivial | (unfold I64; omega) | omega | (simp <;> omega) | (intros; omega), ?_⟩))))
    ((try refine Or.inl ?_); refine ⟨_, hcc, .inr (by and_intros <;> first | rfl | (simp; done)), ?_⟩; (try simp only [xr, simprocAttr]); repeat (guard_target =~ _ ∧ _; refine ⟨by first | trivial | (unfold I64; omega) | omega | (simp <;> omega) | (intros; omega), ?_⟩))
    (repeat (first | refine g1 ?_ | refine g2 ?_ | ((first | refine g3 ?_ | refine g4 ?_ | refine g5 ?_); try simp only [xq, simprocAttr]) | ((first | refine g6 ?_ | refine g7 ?_); simp only [xr, simprocAttr]; repeat (guard_target =~ _ ∧ _; refine ⟨by first | trivial | (unfold I64; omega) | omega | (simp <;> omega) | (intros; omega), ?_⟩))))
    refine awp_rounds (α := Nat) (fun k => [(10, true, .int k)]) [1, 6, 8, 9] (fun k => [.box [.b (.val (.int .i64 0)), .b (.val (.int .i64 0))], .box [.b (.val (.int .i64 (mkFr (mbS s xs k) 60).1)), .b (.val (.int .i64 (mkFr (mbS s xs k) 60).2))]]) (fun k => k ≤ (phL (s : Int) xs xs.length).length) (fun k => (phL (s : Int) xs xs.length).length - k) 0 (by ((try simp only [xk]); (repeat (refine leK_cons ?_ ?_; first | (focus (first | rfl | (simp only [xr, simprocAttr]; done) | (simp only [xr, simprocAttr]; refine int_eq1 ?_; first | trivial | (unfold I64; omega) | omega | (simp <;> omega) | (intros; omega)))) | rotate_left)); (refine leK_nil ?_; exact (by rw [show mbS s xs 0 = 0 from rfl, h0])); (all_goals (try (simp only [xr, simprocAttr]; try refine int_eq1 ?_))))) (Nat.zero_le _) fun k hk => ?_
    simp only [xr, simprocAttr]
    (repeat (first | refine g1 ?_ | refine g2 ?_ | ((first | refine g3 ?_ | refine g4 ?_ | refine g5 ?_); try simp only [xq, simprocAttr]) | ((first | refine g6 ?_ | refine g7 ?_); simp only [xr, simprocAttr]; repeat (guard_target =~ _ ∧ _; refine ⟨by first | trivial | (unfold I64; omega) | omega | (simp <;> omega) | (intros; omega), ?_⟩))))
    refine awp_cond (by first | rfl | (simp only [xr, simprocAttr]; rfl)) (fun hc2 => ?_) (fun hc2 => ?_)
    · have hk' : k < (phL (s : Int) xs xs.length).length := by have := of_decide_eq_true hc2; omega
      have hcs := cnt_size (xs := xs) hs1 hk'
      have hat : (clnK (s : Int) xs (phL (s : Int) xs xs.length).length).getD k 0 = ((opn (ownP (s : Int) xs k) (prvP (s : Int) xs k)).length : Int) := by
        unfold clnK
        rw [List.getD_eq_getElem?_getD, List.getElem?_map, List.getElem?_range hk']
        rfl
      have hS1 := mbS_bd (xs := xs) hs1 hs2 k hk
      have hS2 := mbS_bd (xs := xs) hs1 hs2 (k + 1) hk'
      have hnx : mbS s xs (k + 1) = mbS s xs k + mbT s (opn (ownP (s : Int) xs k) (prvP (s : Int) xs k)).length := by simp [mbS]
      generalize (opn (ownP (s : Int) xs k) (prvP (s : Int) xs k)).length = c at hcs hat hnx
      have hT := mbT_bd (s := s) (c := c) (by omega)
      have hf3 := isFr_small (n := mbT s c) (d := 60) (by decide) (by decide) (by omega) (by omega)
      have hf4 := isFr_small (n := mbS s xs k) (d := 60) (by decide) (by decide) (by omega) (by omega)
      have hlast := l2Add_f hf4 hf3
      rw [← hnx, ok_small (by decide) (by decide) (by omega) (by omega)] at hlast
      ((repeat (first | refine g1 ?_ | refine g2 ?_ | ((first | refine g3 ?_ | refine g4 ?_); try simp only [xq, simprocAttr]))); refine awp_anyM [] 0 [] (by kernel_rfl) (by kernel_rfl) (by kernel_rfl) (by kernel_rfl) (by kernel_rfl) ?_; simp (maxSteps := 3000000) only [xr, simprocAttr]; repeat (guard_target =~ _ ∧ _; refine ⟨by first | trivial | (unfold I64; omega) | omega | (simp <;> omega) | (intros; omega), ?_⟩))
      rw [hat]
      ((try refine Or.inl ?_); refine ⟨_, (l11Times_f c s (by omega) (by omega)), .inr (by and_intros <;> first | rfl | (simp; done)), ?_⟩; (try simp only [xr, simprocAttr]); repeat (guard_target =~ _ ∧ _; refine ⟨by first | trivial | (unfold I64; omega) | omega | (simp <;> omega) | (intros; omega), ?_⟩))
      ((try refine Or.inl ?_); refine ⟨_, hlast, .inr (by and_intros <;> first | rfl | (simp; done)), ?_⟩; (try simp only [xr, simprocAttr]); repeat (guard_target =~ _ ∧ _; refine ⟨by first | trivial | (unfold I64; omega) | omega | (simp <;> omega) | (intros; omega), ?_⟩))
      (repeat (first | refine g1 ?_ | refine g2 ?_ | ((first | refine g3 ?_ | refine g4 ?_ | refine g5 ?_); try simp only [xq, simprocAttr]) | ((first | refine g6 ?_ | refine g7 ?_); simp only [xr, simprocAttr]; repeat (guard_target =~ _ ∧ _; refine ⟨by first | trivial | (unfold I64; omega) | omega | (simp <;> omega) | (intros; omega), ?_⟩))))
      refine ⟨k + 1, by omega, by omega, .inr ⟨2, Nat.le_of_ble_eq_true rfl, leT_of ?_ rfl rfl rfl⟩⟩
      ((try simp only [xk]); (repeat (refine leK_cons ?_ ?_; first | (focus (first | rfl | (simp only [xr, simprocAttr]; done) | (simp only [xr, simprocAttr]; refine int_eq1 ?_; first | trivial | (unfold I64; omega) | omega | (simp <;> omega) | (intros; omega)))) | rotate_left)); (refine leK_nil ?_; exact (by rfl)); (all_goals (try (simp only [xr, simprocAttr]; try refine int_eq1 ?_))))
    · have hk' : k = (phL (s : Int) xs xs.length).length := by have := of_decide_eq_false hc2; omega
      subst hk'
      (repeat (first | refine g1 ?_ | refine g2 ?_ | ((first | refine g3 ?_ | refine g4 ?_ | refine g5 ?_); try simp only [xq, simprocAttr]) | ((first | refine g6 ?_ | refine g7 ?_); simp only [xr, simprocAttr]; repeat (guard_target =~ _ ∧ _; refine ⟨by first | trivial | (unfold I64; omega) | omega | (simp <;> omega) | (intros; omega), ?_⟩))))
      (simp only [xec, simprocAttr]; refine ⟨[_, _], ⟨⟨by simp only [xr, simprocAttr] <;> (and_intros <;> first | trivial | (unfold I64; omega) | omega | (simp <;> omega) | (intros; omega)), rfl⟩, rfl, trivial⟩, rfl, Imp.eq ?_⟩)
      rfl
end Go.Proofs.Ytiaddmelbonhcaa
