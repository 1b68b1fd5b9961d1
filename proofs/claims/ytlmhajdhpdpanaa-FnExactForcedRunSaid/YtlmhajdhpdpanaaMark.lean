/- The numbers that a law writes through its arguments and its results, and reads again, on the machine. Conditions: lengths that a law allows. -/
import Derived.Test.YtlmhajdhpdpanaaMarkP
import Derived.Test.YtlmhajdhpdpanaaME
set_option linter.all false
set_option linter.unusedSimpArgs false
set_option linter.unusedVariables false
namespace Go.Proofs.Ytlmhajdhpdpanaa
open Go Go.RowKit Am

theorem markI_h (k : Int) (xs : List Int) (hk : 0 ≤ k ∧ k ≤ 1073741824) (hn : xs.length ≤ 1048576) : DoesH Try.prog 37 [.lf (.own 0), .int k] [true] [.row 3 (.ints xs)] (.int (k + xs.length)) [.row 3 (.ints (mkI k xs))] := by
  refine spec_hB Try.func37 rfl Try.ntmps37 cfOK (fun _ _ => by kernel_rfl) rfl rfl rfl ?_
  intro M0 w0 S φ0
  rw [Try.results37]
  (repeat (first | refine awp_seq ?_ | refine awp_block ?_ | ((first | refine awp_skip ?_ | refine awp_exit ?_); try simp only [xq, simprocAttr]) | (refine awp_ret ?_; try simp only [xq, simprocAttr]) | ((first | refine awp_reg ?_ | refine awp_anyR (by rfl) (by kernel_rfl) (by kernel_rfl) ?_); simp only [xr, simprocAttr]; repeat (guard_target =~ _ ∧ _; refine And.intro (by first | trivial | (unfold I64; omega) | omega | (refine ⟨?_, ?_⟩ <;> omega) | (simp; done) | (simp; omega) | (intros; omega)) ?_))))
  refine awp_rounds (α := Nat) (fun i => [(5, true, .int i), (1, true, .int (k + (i : Int)))]) [0] (fun i => [.row 3 (.ints (mkTo k xs i))]) (fun i => i ≤ xs.length) (fun i => xs.length - i) 0 (by ((try simp only [xk]); (repeat (refine leK_cons ?_ ?_; first | (focus (first | rfl | (simp only [xr, simprocAttr]; done) | (simp only [xr, simprocAttr]; refine int_eq1 ?_; first | trivial | (unfold I64; omega) | omega | (refine ⟨?_, ?_⟩ <;> omega) | (simp; done) | (simp; omega) | (intros; omega)))) | rotate_left)); (refine leK_nil ?_; exact (by rw [mkTo_0])); (all_goals (try (simp only [xr, simprocAttr]; try refine int_eq1 ?_))))) (Nat.zero_le _) fun i hi => ?_
  have hl := mkTo_len k xs i
  simp only [xr, simprocAttr]
  (repeat (first | refine awp_seq ?_ | refine awp_block ?_ | ((first | refine awp_skip ?_ | refine awp_exit ?_); try simp only [xq, simprocAttr]) | (refine awp_ret ?_; try simp only [xq, simprocAttr]) | ((first | refine awp_reg ?_ | refine awp_anyR (by rfl) (by kernel_rfl) (by kernel_rfl) ?_); simp only [xr, simprocAttr]; repeat (guard_target =~ _ ∧ _; refine And.intro (by first | trivial | (unfold I64; omega) | omega | (refine ⟨?_, ?_⟩ <;> omega) | (simp; done) | (simp; omega) | (intros; omega)) ?_))))
  refine awp_cond (by first | rfl | (simp only [xr, simprocAttr]; rfl)) (fun hc => ?_) (fun hc => ?_)
  · have hc := of_decide_eq_true hc
    have hi' : i < xs.length := by omega
    (repeat (first | refine awp_seq ?_ | refine awp_block ?_ | ((first | refine awp_skip ?_ | refine awp_exit ?_); try simp only [xq, simprocAttr]) | (refine awp_ret ?_; try simp only [xq, simprocAttr]) | ((first | refine awp_reg ?_ | refine awp_anyR (by rfl) (by kernel_rfl) (by kernel_rfl) ?_); simp only [xr, simprocAttr]; repeat (guard_target =~ _ ∧ _; refine And.intro (by first | trivial | (unfold I64; omega) | omega | (refine ⟨?_, ?_⟩ <;> omega) | (simp; done) | (simp; omega) | (intros; omega)) ?_))))
    rw [mkTo_set]
    refine ⟨i + 1, by omega, by omega, .inl ?_⟩
    ((try simp only [xk]); (repeat (refine leK_cons ?_ ?_; first | (focus (first | rfl | (simp only [xr, simprocAttr]; done) | (simp only [xr, simprocAttr]; refine int_eq1 ?_; first | trivial | (unfold I64; omega) | omega | (refine ⟨?_, ?_⟩ <;> omega) | (simp; done) | (simp; omega) | (intros; omega)))) | rotate_left)); (try exact leK_nil rfl); (all_goals (try (simp only [xr, simprocAttr]; try refine int_eq1 ?_))))
  · have hc := of_decide_eq_false hc
    have hi' : i = xs.length := by omega
    subst hi'
    rw [mkTo_all]
    (repeat (first | refine awp_seq ?_ | refine awp_block ?_ | ((first | refine awp_skip ?_ | refine awp_exit ?_); try simp only [xq, simprocAttr]) | (refine awp_ret ?_; try simp only [xq, simprocAttr]) | ((first | refine awp_reg ?_ | refine awp_anyR (by rfl) (by kernel_rfl) (by kernel_rfl) ?_); simp only [xr, simprocAttr]; repeat (guard_target =~ _ ∧ _; refine And.intro (by first | trivial | (unfold I64; omega) | omega | (refine ⟨?_, ?_⟩ <;> omega) | (simp; done) | (simp; omega) | (intros; omega)) ?_))))
    (simp only [ends_normal, ends_ret]; refine retH_1 [0] rfl ⟨rfl, trivial⟩ rfl rfl rfl rfl rfl ?_; try rfl)
theorem heldI_d (k : Int) (xs : List Int) (hk : 0 ≤ k ∧ k ≤ 1073741824) (hn : xs.length ≤ 1048576) : Does Try.prog 41 [.sl (.ints (mkI k xs)), .int k] (.imm (.int (k + xs.length))) := by
  have hl := mkI_len k xs
  refine spec_imm Try.func41 rfl Try.ntmps41 cfOK (fun _ _ => by kernel_rfl) rfl (Nat.le_of_ble_eq_true rfl) ?_
  intro M0 w0
  rw [Try.results41]
  (repeat (first | refine awp_seq ?_ | refine awp_block ?_ | ((first | refine awp_skip ?_ | refine awp_exit ?_); try simp only [xq, simprocAttr]) | (refine awp_ret ?_; try simp only [xq, simprocAttr]) | ((first | refine awp_reg ?_ | refine awp_anyR (by rfl) (by kernel_rfl) (by kernel_rfl) ?_); simp only [xr, simprocAttr]; repeat (guard_target =~ _ ∧ _; refine And.intro (by first | trivial | (unfold I64; omega) | omega | (refine ⟨?_, ?_⟩ <;> omega) | (simp; done) | (simp; omega) | (intros; omega)) ?_))))
  refine awp_rounds (α := Nat) (fun i => [(5, true, .int i), (1, true, .int (k + (i : Int)))]) [0] (fun _ => []) (fun i => i ≤ xs.length) (fun i => xs.length - i) 0 (by ((try simp only [xk]); (repeat (refine leK_cons ?_ ?_; first | (focus (first | rfl | (simp only [xr, simprocAttr]; done) | (simp only [xr, simprocAttr]; refine int_eq1 ?_; first | trivial | (unfold I64; omega) | omega | (refine ⟨?_, ?_⟩ <;> omega) | (simp; done) | (simp; omega) | (intros; omega)))) | rotate_left)); (try exact leK_nil rfl); (all_goals (try (simp only [xr, simprocAttr]; try refine int_eq1 ?_))))) (Nat.zero_le _) fun i hi => ?_
  simp only [xr, simprocAttr]
  (repeat (first | refine awp_seq ?_ | refine awp_block ?_ | ((first | refine awp_skip ?_ | refine awp_exit ?_); try simp only [xq, simprocAttr]) | (refine awp_ret ?_; try simp only [xq, simprocAttr]) | ((first | refine awp_reg ?_ | refine awp_anyR (by rfl) (by kernel_rfl) (by kernel_rfl) ?_); simp only [xr, simprocAttr]; repeat (guard_target =~ _ ∧ _; refine And.intro (by first | trivial | (unfold I64; omega) | omega | (refine ⟨?_, ?_⟩ <;> omega) | (simp; done) | (simp; omega) | (intros; omega)) ?_))))
  refine awp_cond (by first | rfl | (simp only [xr, simprocAttr]; rfl)) (fun hc => ?_) (fun hc => ?_)
  · have hc := of_decide_eq_true hc
    have hi' : i < xs.length := by omega
    (repeat (first | refine awp_seq ?_ | refine awp_block ?_ | ((first | refine awp_skip ?_ | refine awp_exit ?_); try simp only [xq, simprocAttr]) | (refine awp_ret ?_; try simp only [xq, simprocAttr]) | ((first | refine awp_reg ?_ | refine awp_anyR (by rfl) (by kernel_rfl) (by kernel_rfl) ?_); simp only [xr, simprocAttr]; repeat (guard_target =~ _ ∧ _; refine And.intro (by first | trivial | (unfold I64; omega) | omega | (refine ⟨?_, ?_⟩ <;> omega) | (simp; done) | (simp; omega) | (intros; omega)) ?_))))
    rw [mkI_at hi']
    refine awp_cond (by first | rfl | (simp only [xr, simprocAttr]; rfl)) (fun hd => ?_) (fun hd => ?_)
    · simp at hd
    (repeat (first | refine awp_seq ?_ | refine awp_block ?_ | ((first | refine awp_skip ?_ | refine awp_exit ?_); try simp only [xq, simprocAttr]) | (refine awp_ret ?_; try simp only [xq, simprocAttr]) | ((first | refine awp_reg ?_ | refine awp_anyR (by rfl) (by kernel_rfl) (by kernel_rfl) ?_); simp only [xr, simprocAttr]; repeat (guard_target =~ _ ∧ _; refine And.intro (by first | trivial | (unfold I64; omega) | omega | (refine ⟨?_, ?_⟩ <;> omega) | (simp; done) | (simp; omega) | (intros; omega)) ?_))))
    refine ⟨i + 1, by omega, by omega, .inl ?_⟩
    ((try simp only [xk]); (repeat (refine leK_cons ?_ ?_; first | (focus (first | rfl | (simp only [xr, simprocAttr]; done) | (simp only [xr, simprocAttr]; refine int_eq1 ?_; first | trivial | (unfold I64; omega) | omega | (refine ⟨?_, ?_⟩ <;> omega) | (simp; done) | (simp; omega) | (intros; omega)))) | rotate_left)); (try exact leK_nil rfl); (all_goals (try (simp only [xr, simprocAttr]; try refine int_eq1 ?_))))
  · have hc := of_decide_eq_false hc
    have hi' : i = xs.length := by omega
    subst hi'
    (repeat (first | refine awp_seq ?_ | refine awp_block ?_ | ((first | refine awp_skip ?_ | refine awp_exit ?_); try simp only [xq, simprocAttr]) | (refine awp_ret ?_; try simp only [xq, simprocAttr]) | ((first | refine awp_reg ?_ | refine awp_anyR (by rfl) (by kernel_rfl) (by kernel_rfl) ?_); simp only [xr, simprocAttr]; repeat (guard_target =~ _ ∧ _; refine And.intro (by first | trivial | (unfold I64; omega) | omega | (refine ⟨?_, ?_⟩ <;> omega) | (simp; done) | (simp; omega) | (intros; omega)) ?_))))
    (simp only [xe, simprocAttr]; refine ⟨_, rfl, rfl, Imp.eq ?_⟩)
    rfl
theorem markII_h (k : Int) (xs : List (List Int)) (hk : 0 ≤ k ∧ k + nII xs ≤ 1073741824) (hn : xs.length ≤ 1048576) (hs : ∀ x ∈ xs, x.length ≤ 1048576) : DoesH Try.prog 32 [.lf (.own 0), .int k] [true] [.tree [27, 3] (.ii xs)] (.int (k + nII xs)) [.tree [27, 3] (.ii (mkII k xs))] := by
  refine spec_hB Try.func32 rfl Try.ntmps32 cfOK (fun _ _ => by kernel_rfl) rfl rfl rfl ?_
  intro M0 w0 S φ0
  rw [Try.results32]
  (repeat (first | refine awp_seq ?_ | refine awp_block ?_ | ((first | refine awp_skip ?_ | refine awp_exit ?_); try simp only [xq, simprocAttr]) | (refine awp_ret ?_; try simp only [xq, simprocAttr]) | ((first | refine awp_reg ?_ | refine awp_anyR (by rfl) (by kernel_rfl) (by kernel_rfl) ?_); simp only [xr, simprocAttr]; repeat (guard_target =~ _ ∧ _; refine And.intro (by first | trivial | (unfold I64; omega) | omega | (refine ⟨?_, ?_⟩ <;> omega) | (simp; done) | (simp; omega) | (intros; omega)) ?_))))
  refine awp_rounds (α := Nat) (fun i => [(5, true, .int i), (1, true, .int (k + szL List.length (xs.take i)))]) [0] (fun i => [.tree [27, 3] (.ii (mkLto mkI List.length k xs i))]) (fun i => i ≤ xs.length) (fun i => xs.length - i) 0 (by ((try simp only [xk]); (repeat (refine leK_cons ?_ ?_; first | (focus (first | rfl | (simp only [xr, simprocAttr]; done) | (simp only [xr, simprocAttr]; refine int_eq1 ?_; first | trivial | (unfold I64; omega) | omega | (refine ⟨?_, ?_⟩ <;> omega) | (simp; done) | (simp; omega) | (intros; omega)))) | rotate_left)); (refine leK_nil ?_; exact (by rw [mkLto_0])); (all_goals (try (simp only [xr, simprocAttr]; try refine int_eq1 ?_)))); all_goals (simp [szL])) (Nat.zero_le _) fun i hi => ?_
  have hl := mkLto_len (mk := mkI) (sz := List.length) (k := k) hi
  simp only [xr, simprocAttr]
  (repeat (first | refine awp_seq ?_ | refine awp_block ?_ | ((first | refine awp_skip ?_ | refine awp_exit ?_); try simp only [xq, simprocAttr]) | (refine awp_ret ?_; try simp only [xq, simprocAttr]) | ((first | refine awp_reg ?_ | refine awp_anyR (by rfl) (by kernel_rfl) (by kernel_rfl) ?_); simp only [xr, simprocAttr]; repeat (guard_target =~ _ ∧ _; refine And.intro (by first | trivial | (unfold I64; omega) | omega | (refine ⟨?_, ?_⟩ <;> omega) | (simp; done) | (simp; omega) | (intros; omega)) ?_))))
  refine awp_cond (by first | rfl | (simp only [xr, simprocAttr]; rfl)) (fun hc => ?_) (fun hc => ?_)
  · have hc := of_decide_eq_true hc
    have hi' : i < xs.length := by omega
    have hx : xs.getD i [] ∈ xs := by simp [hi']
    have h1 := szL_take (sz := List.length) hi' []
    have h2 := szL_take_le (sz := List.length) (xs := xs) (i + 1)
    have hk' : 0 ≤ k ∧ k + (szL List.length xs : Nat) ≤ 1073741824 := hk
    have hat := mkLto_at (mk := mkI) (sz := List.length) (k := k) hi' []
    have hst := mkLto_set (mk := mkI) (sz := List.length) (k := k) hi' []
    (repeat (first | refine awp_seq ?_ | refine awp_block ?_ | ((first | refine awp_skip ?_ | refine awp_exit ?_); try simp only [xq, simprocAttr]) | (refine awp_ret ?_; try simp only [xq, simprocAttr]) | ((first | refine awp_reg ?_ | refine awp_anyR (by rfl) (by kernel_rfl) (by kernel_rfl) ?_); simp only [xr, simprocAttr]; repeat (guard_target =~ _ ∧ _; refine And.intro (by first | trivial | (unfold I64; omega) | omega | (refine ⟨?_, ?_⟩ <;> omega) | (simp; done) | (simp; omega) | (intros; omega)) ?_))))
    rw [hat]
    (refine .inr (callW_a [1] (markI_h (k + szL List.length (xs.take i)) (xs.getD i []) ⟨by omega, by omega⟩ (hs _ hx)) rfl rfl rfl rfl ⟨rfl, trivial⟩ rfl rfl rfl rfl ?_); (try simp only [xr, simprocAttr]); repeat (guard_target =~ _ ∧ _; refine And.intro (by first | trivial | (unfold I64; omega) | omega | (refine ⟨?_, ?_⟩ <;> omega) | (simp; done) | (simp; omega) | (intros; omega)) ?_))
    (refine awp_unf 0 rfl (by decide) rfl rfl (by first | (show _ < List.length _; omega) | first | trivial | (unfold I64; omega) | omega | (refine ⟨?_, ?_⟩ <;> omega) | (simp; done) | (simp; omega) | (intros; omega)) rfl ?_; simp only [xu, simprocAttr])
    rw [hst]
    (repeat (first | refine awp_seq ?_ | refine awp_block ?_ | ((first | refine awp_skip ?_ | refine awp_exit ?_); try simp only [xq, simprocAttr]) | (refine awp_ret ?_; try simp only [xq, simprocAttr]) | ((first | refine awp_reg ?_ | refine awp_anyR (by rfl) (by kernel_rfl) (by kernel_rfl) ?_); simp only [xr, simprocAttr]; repeat (guard_target =~ _ ∧ _; refine And.intro (by first | trivial | (unfold I64; omega) | omega | (refine ⟨?_, ?_⟩ <;> omega) | (simp; done) | (simp; omega) | (intros; omega)) ?_))))
    refine ⟨i + 1, by omega, by omega, .inr ⟨1, Nat.le_of_ble_eq_true rfl, leT_of ?_ rfl rfl rfl⟩⟩
    ((try simp only [xk]); (repeat (refine leK_cons ?_ ?_; first | (focus (first | rfl | (simp only [xr, simprocAttr]; done) | (simp only [xr, simprocAttr]; refine int_eq1 ?_; first | trivial | (unfold I64; omega) | omega | (refine ⟨?_, ?_⟩ <;> omega) | (simp; done) | (simp; omega) | (intros; omega)))) | rotate_left)); (try exact leK_nil rfl); (all_goals (try (simp only [xr, simprocAttr]; try refine int_eq1 ?_))))
  · have hc := of_decide_eq_false hc
    have hi' : i = xs.length := by omega
    subst hi'
    rw [mkLto_all, List.take_length]
    (repeat (first | refine awp_seq ?_ | refine awp_block ?_ | ((first | refine awp_skip ?_ | refine awp_exit ?_); try simp only [xq, simprocAttr]) | (refine awp_ret ?_; try simp only [xq, simprocAttr]) | ((first | refine awp_reg ?_ | refine awp_anyR (by rfl) (by kernel_rfl) (by kernel_rfl) ?_); simp only [xr, simprocAttr]; repeat (guard_target =~ _ ∧ _; refine And.intro (by first | trivial | (unfold I64; omega) | omega | (refine ⟨?_, ?_⟩ <;> omega) | (simp; done) | (simp; omega) | (intros; omega)) ?_))))
    (simp only [ends_normal, ends_ret]; refine retH_1 [0] rfl ⟨rfl, trivial⟩ rfl rfl rfl rfl rfl ?_; try rfl)
theorem markIII_h (k : Int) (xs : List (List (List Int))) (hk : 0 ≤ k ∧ k + nIII xs ≤ 1073741824) (hn : xs.length ≤ 1048576) (hs : ∀ x ∈ xs, x.length ≤ 1048576 ∧ ∀ y ∈ x, y.length ≤ 1048576) : DoesH Try.prog 122 [.lf (.own 0), .int k] [true] [.tree [22, 27, 3] (.iii xs)] (.int (k + nIII xs)) [.tree [22, 27, 3] (.iii (mkIII k xs))] := by
  refine spec_hB Try.func122 rfl Try.ntmps122 cfOK (fun _ _ => by kernel_rfl) rfl rfl rfl ?_
  intro M0 w0 S φ0
  rw [Try.results122]
  (repeat (first | refine awp_seq ?_ | refine awp_block ?_ | ((first | refine awp_skip ?_ | refine awp_exit ?_); try simp only [xq, simprocAttr]) | (refine awp_ret ?_; try simp only [xq, simprocAttr]) | ((first | refine awp_reg ?_ | refine awp_anyR (by rfl) (by kernel_rfl) (by kernel_rfl) ?_); simp only [xr, simprocAttr]; repeat (guard_target =~ _ ∧ _; refine And.intro (by first | trivial | (unfold I64; omega) | omega | (refine ⟨?_, ?_⟩ <;> omega) | (simp; done) | (simp; omega) | (intros; omega)) ?_))))
  refine awp_rounds (α := Nat) (fun i => [(5, true, .int i), (1, true, .int (k + szL nII (xs.take i)))]) [0] (fun i => [.tree [22, 27, 3] (.iii (mkLto mkII nII k xs i))]) (fun i => i ≤ xs.length) (fun i => xs.length - i) 0 (by ((try simp only [xk]); (repeat (refine leK_cons ?_ ?_; first | (focus (first | rfl | (simp only [xr, simprocAttr]; done) | (simp only [xr, simprocAttr]; refine int_eq1 ?_; first | trivial | (unfold I64; omega) | omega | (refine ⟨?_, ?_⟩ <;> omega) | (simp; done) | (simp; omega) | (intros; omega)))) | rotate_left)); (refine leK_nil ?_; exact (by rw [mkLto_0])); (all_goals (try (simp only [xr, simprocAttr]; try refine int_eq1 ?_)))); all_goals (simp [szL])) (Nat.zero_le _) fun i hi => ?_
  have hl := mkLto_len (mk := mkII) (sz := nII) (k := k) hi
  simp only [xr, simprocAttr]
  (repeat (first | refine awp_seq ?_ | refine awp_block ?_ | ((first | refine awp_skip ?_ | refine awp_exit ?_); try simp only [xq, simprocAttr]) | (refine awp_ret ?_; try simp only [xq, simprocAttr]) | ((first | refine awp_reg ?_ | refine awp_anyR (by rfl) (by kernel_rfl) (by kernel_rfl) ?_); simp only [xr, simprocAttr]; repeat (guard_target =~ _ ∧ _; refine And.intro (by first | trivial | (unfold I64; omega) | omega | (refine ⟨?_, ?_⟩ <;> omega) | (simp; done) | (simp; omega) | (intros; omega)) ?_))))
  refine awp_cond (by first | rfl | (simp only [xr, simprocAttr]; rfl)) (fun hc => ?_) (fun hc => ?_)
  · have hc := of_decide_eq_true hc
    have hi' : i < xs.length := by omega
    have hx : xs.getD i [] ∈ xs := by simp [hi']
    have h1 := szL_take (sz := nII) hi' []
    have h2 := szL_take_le (sz := nII) (xs := xs) (i + 1)
    have hk' : 0 ≤ k ∧ k + (szL nII xs : Nat) ≤ 1073741824 := hk
    have hat := mkLto_at (mk := mkII) (sz := nII) (k := k) hi' []
    have hst := mkLto_set (mk := mkII) (sz := nII) (k := k) hi' []
    (repeat (first | refine awp_seq ?_ | refine awp_block ?_ | ((first | refine awp_skip ?_ | refine awp_exit ?_); try simp only [xq, simprocAttr]) | (refine awp_ret ?_; try simp only [xq, simprocAttr]) | ((first | refine awp_reg ?_ | refine awp_anyR (by rfl) (by kernel_rfl) (by kernel_rfl) ?_); simp only [xr, simprocAttr]; repeat (guard_target =~ _ ∧ _; refine And.intro (by first | trivial | (unfold I64; omega) | omega | (refine ⟨?_, ?_⟩ <;> omega) | (simp; done) | (simp; omega) | (intros; omega)) ?_))))
    rw [hat]
    (refine .inr (callW_a [1] (markII_h (k + szL nII (xs.take i)) (xs.getD i []) ⟨by omega, by omega⟩ (hs _ hx).1 (hs _ hx).2) rfl rfl rfl rfl ⟨rfl, trivial⟩ rfl rfl rfl rfl ?_); (try simp only [xr, simprocAttr]); repeat (guard_target =~ _ ∧ _; refine And.intro (by first | trivial | (unfold I64; omega) | omega | (refine ⟨?_, ?_⟩ <;> omega) | (simp; done) | (simp; omega) | (intros; omega)) ?_))
    (refine awp_unf 0 rfl (by decide) rfl rfl (by first | (show _ < List.length _; omega) | first | trivial | (unfold I64; omega) | omega | (refine ⟨?_, ?_⟩ <;> omega) | (simp; done) | (simp; omega) | (intros; omega)) rfl ?_; simp only [xu, simprocAttr])
    rw [hst]
    (repeat (first | refine awp_seq ?_ | refine awp_block ?_ | ((first | refine awp_skip ?_ | refine awp_exit ?_); try simp only [xq, simprocAttr]) | (refine awp_ret ?_; try simp only [xq, simprocAttr]) | ((first | refine awp_reg ?_ | refine awp_anyR (by rfl) (by kernel_rfl) (by kernel_rfl) ?_); simp only [xr, simprocAttr]; repeat (guard_target =~ _ ∧ _; refine And.intro (by first | trivial | (unfold I64; omega) | omega | (refine ⟨?_, ?_⟩ <;> omega) | (simp; done) | (simp; omega) | (intros; omega)) ?_))))
    refine ⟨i + 1, by omega, by omega, .inr ⟨1, Nat.le_of_ble_eq_true rfl, leT_of ?_ rfl rfl rfl⟩⟩
    ((try simp only [xk]); (repeat (refine leK_cons ?_ ?_; first | (focus (first | rfl | (simp only [xr, simprocAttr]; done) | (simp only [xr, simprocAttr]; refine int_eq1 ?_; first | trivial | (unfold I64; omega) | omega | (refine ⟨?_, ?_⟩ <;> omega) | (simp; done) | (simp; omega) | (intros; omega)))) | rotate_left)); (try exact leK_nil rfl); (all_goals (try (simp only [xr, simprocAttr]; try refine int_eq1 ?_))))
  · have hc := of_decide_eq_false hc
    have hi' : i = xs.length := by omega
    subst hi'
    rw [mkLto_all, List.take_length]
    (repeat (first | refine awp_seq ?_ | refine awp_block ?_ | ((first | refine awp_skip ?_ | refine awp_exit ?_); try simp only [xq, simprocAttr]) | (refine awp_ret ?_; try simp only [xq, simprocAttr]) | ((first | refine awp_reg ?_ | refine awp_anyR (by rfl) (by kernel_rfl) (by kernel_rfl) ?_); simp only [xr, simprocAttr]; repeat (guard_target =~ _ ∧ _; refine And.intro (by first | trivial | (unfold I64; omega) | omega | (refine ⟨?_, ?_⟩ <;> omega) | (simp; done) | (simp; omega) | (intros; omega)) ?_))))
    (simp only [ends_normal, ends_ret]; refine retH_1 [0] rfl ⟨rfl, trivial⟩ rfl rfl rfl rfl rfl ?_; try rfl)
theorem heldII_d (k : Int) (xs : List (List Int)) (hk : 0 ≤ k ∧ k + nII xs ≤ 1073741824) (hn : xs.length ≤ 1048576) (hs : ∀ x ∈ xs, x.length ≤ 1048576) : Does Try.prog 38 [.sl (.ii (mkII k xs)), .int k] (.imm (.int (k + nII xs))) := by
  have hl : (mkII k xs).length = xs.length := mkL_len k xs
  refine spec_imm Try.func38 rfl Try.ntmps38 cfOK (fun _ _ => by kernel_rfl) rfl (Nat.le_of_ble_eq_true rfl) ?_
  intro M0 w0
  rw [Try.results38]
  (repeat (first | refine awp_seq ?_ | refine awp_block ?_ | ((first | refine awp_skip ?_ | refine awp_exit ?_); try simp only [xq, simprocAttr]) | (refine awp_ret ?_; try simp only [xq, simprocAttr]) | ((first | refine awp_reg ?_ | refine awp_anyR (by rfl) (by kernel_rfl) (by kernel_rfl) ?_); simp only [xr, simprocAttr]; repeat (guard_target =~ _ ∧ _; refine And.intro (by first | trivial | (unfold I64; omega) | omega | (refine ⟨?_, ?_⟩ <;> omega) | (simp; done) | (simp; omega) | (intros; omega)) ?_))))
  refine awp_rounds (α := Nat) (fun i => [(5, true, .int i), (1, true, .int (k + szL List.length (xs.take i)))]) [0] (fun _ => []) (fun i => i ≤ xs.length) (fun i => xs.length - i) 0 (by ((try simp only [xk]); (repeat (refine leK_cons ?_ ?_; first | (focus (first | rfl | (simp only [xr, simprocAttr]; done) | (simp only [xr, simprocAttr]; refine int_eq1 ?_; first | trivial | (unfold I64; omega) | omega | (refine ⟨?_, ?_⟩ <;> omega) | (simp; done) | (simp; omega) | (intros; omega)))) | rotate_left)); (try exact leK_nil rfl); (all_goals (try (simp only [xr, simprocAttr]; try refine int_eq1 ?_)))); all_goals (simp [szL])) (Nat.zero_le _) fun i hi => ?_
  simp only [xr, simprocAttr]
  (repeat (first | refine awp_seq ?_ | refine awp_block ?_ | ((first | refine awp_skip ?_ | refine awp_exit ?_); try simp only [xq, simprocAttr]) | (refine awp_ret ?_; try simp only [xq, simprocAttr]) | ((first | refine awp_reg ?_ | refine awp_anyR (by rfl) (by kernel_rfl) (by kernel_rfl) ?_); simp only [xr, simprocAttr]; repeat (guard_target =~ _ ∧ _; refine And.intro (by first | trivial | (unfold I64; omega) | omega | (refine ⟨?_, ?_⟩ <;> omega) | (simp; done) | (simp; omega) | (intros; omega)) ?_))))
  refine awp_cond (by first | rfl | (simp only [xr, simprocAttr]; rfl)) (fun hc => ?_) (fun hc => ?_)
  · have hc := of_decide_eq_true hc
    have hi' : i < xs.length := by omega
    have hx : xs.getD i [] ∈ xs := by simp [hi']
    have h1 := szL_take (sz := List.length) hi' []
    have h2 := szL_take_le (sz := List.length) (xs := xs) (i + 1)
    have hk' : 0 ≤ k ∧ k + (szL List.length xs : Nat) ≤ 1073741824 := hk
    (repeat (first | refine awp_seq ?_ | refine awp_block ?_ | ((first | refine awp_skip ?_ | refine awp_exit ?_); try simp only [xq, simprocAttr]) | (refine awp_ret ?_; try simp only [xq, simprocAttr]) | ((first | refine awp_reg ?_ | refine awp_anyR (by rfl) (by kernel_rfl) (by kernel_rfl) ?_); simp only [xr, simprocAttr]; repeat (guard_target =~ _ ∧ _; refine And.intro (by first | trivial | (unfold I64; omega) | omega | (refine ⟨?_, ?_⟩ <;> omega) | (simp; done) | (simp; omega) | (intros; omega)) ?_))))
    rw [mkL_at hi']
    ((first | refine .inl ⟨_, (heldI_d (k + szL List.length (xs.take i)) (xs.getD i []) ⟨by omega, by omega⟩ (hs _ hx)), .inl rfl, ?_⟩ | refine ⟨_, (heldI_d (k + szL List.length (xs.take i)) (xs.getD i []) ⟨by omega, by omega⟩ (hs _ hx)), .inl rfl, ?_⟩); (try simp only [xr, simprocAttr]); repeat (guard_target =~ _ ∧ _; refine And.intro (by first | trivial | (unfold I64; omega) | omega | (refine ⟨?_, ?_⟩ <;> omega) | (simp; done) | (simp; omega) | (intros; omega)) ?_))
    (repeat (first | refine awp_seq ?_ | refine awp_block ?_ | ((first | refine awp_skip ?_ | refine awp_exit ?_); try simp only [xq, simprocAttr]) | (refine awp_ret ?_; try simp only [xq, simprocAttr]) | ((first | refine awp_reg ?_ | refine awp_anyR (by rfl) (by kernel_rfl) (by kernel_rfl) ?_); simp only [xr, simprocAttr]; repeat (guard_target =~ _ ∧ _; refine And.intro (by first | trivial | (unfold I64; omega) | omega | (refine ⟨?_, ?_⟩ <;> omega) | (simp; done) | (simp; omega) | (intros; omega)) ?_))))
    refine awp_cond (by first | rfl | (simp only [xr, simprocAttr]; rfl)) (fun hd => ?_) (fun hd => ?_)
    · have hd := of_decide_eq_true hd
      omega
    (repeat (first | refine awp_seq ?_ | refine awp_block ?_ | ((first | refine awp_skip ?_ | refine awp_exit ?_); try simp only [xq, simprocAttr]) | (refine awp_ret ?_; try simp only [xq, simprocAttr]) | ((first | refine awp_reg ?_ | refine awp_anyR (by rfl) (by kernel_rfl) (by kernel_rfl) ?_); simp only [xr, simprocAttr]; repeat (guard_target =~ _ ∧ _; refine And.intro (by first | trivial | (unfold I64; omega) | omega | (refine ⟨?_, ?_⟩ <;> omega) | (simp; done) | (simp; omega) | (intros; omega)) ?_))))
    refine ⟨i + 1, by omega, by omega, .inl ?_⟩
    ((try simp only [xk]); (repeat (refine leK_cons ?_ ?_; first | (focus (first | rfl | (simp only [xr, simprocAttr]; done) | (simp only [xr, simprocAttr]; refine int_eq1 ?_; first | trivial | (unfold I64; omega) | omega | (refine ⟨?_, ?_⟩ <;> omega) | (simp; done) | (simp; omega) | (intros; omega)))) | rotate_left)); (try exact leK_nil rfl); (all_goals (try (simp only [xr, simprocAttr]; try refine int_eq1 ?_))))
  · have hc := of_decide_eq_false hc
    have hi' : i = xs.length := by omega
    subst hi'
    rw [List.take_length]
    (repeat (first | refine awp_seq ?_ | refine awp_block ?_ | ((first | refine awp_skip ?_ | refine awp_exit ?_); try simp only [xq, simprocAttr]) | (refine awp_ret ?_; try simp only [xq, simprocAttr]) | ((first | refine awp_reg ?_ | refine awp_anyR (by rfl) (by kernel_rfl) (by kernel_rfl) ?_); simp only [xr, simprocAttr]; repeat (guard_target =~ _ ∧ _; refine And.intro (by first | trivial | (unfold I64; omega) | omega | (refine ⟨?_, ?_⟩ <;> omega) | (simp; done) | (simp; omega) | (intros; omega)) ?_))))
    (simp only [xe, simprocAttr]; refine ⟨_, rfl, rfl, Imp.eq ?_⟩)
    rfl
theorem markII_0 (k : Int) : Does Try.prog 32 [.sl (.ii []), .int k] (.imm (.int k)) := by
  refine spec_imm Try.func32 rfl Try.ntmps32 cfOK (fun _ _ => by kernel_rfl) rfl (Nat.le_of_ble_eq_true rfl) ?_
  intro M0 w0
  rw [Try.results32]
  (repeat (first | refine awp_seq ?_ | refine awp_block ?_ | ((first | refine awp_skip ?_ | refine awp_exit ?_); try simp only [xq, simprocAttr]) | (refine awp_ret ?_; try simp only [xq, simprocAttr]) | ((first | refine awp_reg ?_ | refine awp_anyR (by rfl) (by kernel_rfl) (by kernel_rfl) ?_); simp only [xr, simprocAttr]; repeat (guard_target =~ _ ∧ _; refine And.intro (by first | trivial | (unfold I64; omega) | omega | (refine ⟨?_, ?_⟩ <;> omega) | (simp; done) | (simp; omega) | (intros; omega)) ?_))))
  refine awp_rounds (α := Nat) (fun _ => [(5, true, .int 0), (1, true, .int k)]) [0] (fun _ => []) (fun _ => True) (fun i => i) 0 (by ((try simp only [xk]); (repeat (refine leK_cons ?_ ?_; first | (focus (first | rfl | (simp only [xr, simprocAttr]; done) | (simp only [xr, simprocAttr]; refine int_eq1 ?_; first | trivial | (unfold I64; omega) | omega | (refine ⟨?_, ?_⟩ <;> omega) | (simp; done) | (simp; omega) | (intros; omega)))) | rotate_left)); (try exact leK_nil rfl); (all_goals (try (simp only [xr, simprocAttr]; try refine int_eq1 ?_))))) trivial fun i _ => ?_
  simp only [xr, simprocAttr]
  (repeat (first | refine awp_seq ?_ | refine awp_block ?_ | ((first | refine awp_skip ?_ | refine awp_exit ?_); try simp only [xq, simprocAttr]) | (refine awp_ret ?_; try simp only [xq, simprocAttr]) | ((first | refine awp_reg ?_ | refine awp_anyR (by rfl) (by kernel_rfl) (by kernel_rfl) ?_); simp only [xr, simprocAttr]; repeat (guard_target =~ _ ∧ _; refine And.intro (by first | trivial | (unfold I64; omega) | omega | (refine ⟨?_, ?_⟩ <;> omega) | (simp; done) | (simp; omega) | (intros; omega)) ?_))))
  refine awp_cond (by first | rfl | (simp only [xr, simprocAttr]; rfl)) (fun hc => ?_) (fun hc => ?_)
  · simp at hc
  · (repeat (first | refine awp_seq ?_ | refine awp_block ?_ | ((first | refine awp_skip ?_ | refine awp_exit ?_); try simp only [xq, simprocAttr]) | (refine awp_ret ?_; try simp only [xq, simprocAttr]) | ((first | refine awp_reg ?_ | refine awp_anyR (by rfl) (by kernel_rfl) (by kernel_rfl) ?_); simp only [xr, simprocAttr]; repeat (guard_target =~ _ ∧ _; refine And.intro (by first | trivial | (unfold I64; omega) | omega | (refine ⟨?_, ?_⟩ <;> omega) | (simp; done) | (simp; omega) | (intros; omega)) ?_))))
    (simp only [xe, simprocAttr]; refine ⟨_, rfl, rfl, Imp.eq ?_⟩)
    rfl
theorem heldII_0 (k : Int) : Does Try.prog 38 [.sl (.ii []), .int k] (.imm (.int k)) := by
  refine spec_imm Try.func38 rfl Try.ntmps38 cfOK (fun _ _ => by kernel_rfl) rfl (Nat.le_of_ble_eq_true rfl) ?_
  intro M0 w0
  rw [Try.results38]
  (repeat (first | refine awp_seq ?_ | refine awp_block ?_ | ((first | refine awp_skip ?_ | refine awp_exit ?_); try simp only [xq, simprocAttr]) | (refine awp_ret ?_; try simp only [xq, simprocAttr]) | ((first | refine awp_reg ?_ | refine awp_anyR (by rfl) (by kernel_rfl) (by kernel_rfl) ?_); simp only [xr, simprocAttr]; repeat (guard_target =~ _ ∧ _; refine And.intro (by first | trivial | (unfold I64; omega) | omega | (refine ⟨?_, ?_⟩ <;> omega) | (simp; done) | (simp; omega) | (intros; omega)) ?_))))
  refine awp_rounds (α := Nat) (fun _ => [(5, true, .int 0), (1, true, .int k)]) [0] (fun _ => []) (fun _ => True) (fun i => i) 0 (by ((try simp only [xk]); (repeat (refine leK_cons ?_ ?_; first | (focus (first | rfl | (simp only [xr, simprocAttr]; done) | (simp only [xr, simprocAttr]; refine int_eq1 ?_; first | trivial | (unfold I64; omega) | omega | (refine ⟨?_, ?_⟩ <;> omega) | (simp; done) | (simp; omega) | (intros; omega)))) | rotate_left)); (try exact leK_nil rfl); (all_goals (try (simp only [xr, simprocAttr]; try refine int_eq1 ?_))))) trivial fun i _ => ?_
  simp only [xr, simprocAttr]
  (repeat (first | refine awp_seq ?_ | refine awp_block ?_ | ((first | refine awp_skip ?_ | refine awp_exit ?_); try simp only [xq, simprocAttr]) | (refine awp_ret ?_; try simp only [xq, simprocAttr]) | ((first | refine awp_reg ?_ | refine awp_anyR (by rfl) (by kernel_rfl) (by kernel_rfl) ?_); simp only [xr, simprocAttr]; repeat (guard_target =~ _ ∧ _; refine And.intro (by first | trivial | (unfold I64; omega) | omega | (refine ⟨?_, ?_⟩ <;> omega) | (simp; done) | (simp; omega) | (intros; omega)) ?_))))
  refine awp_cond (by first | rfl | (simp only [xr, simprocAttr]; rfl)) (fun hc => ?_) (fun hc => ?_)
  · simp at hc
  · (repeat (first | refine awp_seq ?_ | refine awp_block ?_ | ((first | refine awp_skip ?_ | refine awp_exit ?_); try simp only [xq, simprocAttr]) | (refine awp_ret ?_; try simp only [xq, simprocAttr]) | ((first | refine awp_reg ?_ | refine awp_anyR (by rfl) (by kernel_rfl) (by kernel_rfl) ?_); simp only [xr, simprocAttr]; repeat (guard_target =~ _ ∧ _; refine And.intro (by first | trivial | (unfold I64; omega) | omega | (refine ⟨?_, ?_⟩ <;> omega) | (simp; done) | (simp; omega) | (intros; omega)) ?_))))
    (simp only [xe, simprocAttr]; refine ⟨_, rfl, rfl, Imp.eq ?_⟩)
    rfl
theorem markI_0 (k : Int) : Does Try.prog 37 [.sl (.ints []), .int k] (.imm (.int k)) := by
  refine spec_imm Try.func37 rfl Try.ntmps37 cfOK (fun _ _ => by kernel_rfl) rfl (Nat.le_of_ble_eq_true rfl) ?_
  intro M0 w0
  rw [Try.results37]
  (repeat (first | refine awp_seq ?_ | refine awp_block ?_ | ((first | refine awp_skip ?_ | refine awp_exit ?_); try simp only [xq, simprocAttr]) | (refine awp_ret ?_; try simp only [xq, simprocAttr]) | ((first | refine awp_reg ?_ | refine awp_anyR (by rfl) (by kernel_rfl) (by kernel_rfl) ?_); simp only [xr, simprocAttr]; repeat (guard_target =~ _ ∧ _; refine And.intro (by first | trivial | (unfold I64; omega) | omega | (refine ⟨?_, ?_⟩ <;> omega) | (simp; done) | (simp; omega) | (intros; omega)) ?_))))
  refine awp_rounds (α := Nat) (fun _ => [(5, true, .int 0), (1, true, .int k)]) [0] (fun _ => []) (fun _ => True) (fun i => i) 0 (by ((try simp only [xk]); (repeat (refine leK_cons ?_ ?_; first | (focus (first | rfl | (simp only [xr, simprocAttr]; done) | (simp only [xr, simprocAttr]; refine int_eq1 ?_; first | trivial | (unfold I64; omega) | omega | (refine ⟨?_, ?_⟩ <;> omega) | (simp; done) | (simp; omega) | (intros; omega)))) | rotate_left)); (try exact leK_nil rfl); (all_goals (try (simp only [xr, simprocAttr]; try refine int_eq1 ?_))))) trivial fun i _ => ?_
  simp only [xr, simprocAttr]
  (repeat (first | refine awp_seq ?_ | refine awp_block ?_ | ((first | refine awp_skip ?_ | refine awp_exit ?_); try simp only [xq, simprocAttr]) | (refine awp_ret ?_; try simp only [xq, simprocAttr]) | ((first | refine awp_reg ?_ | refine awp_anyR (by rfl) (by kernel_rfl) (by kernel_rfl) ?_); simp only [xr, simprocAttr]; repeat (guard_target =~ _ ∧ _; refine And.intro (by first | trivial | (unfold I64; omega) | omega | (refine ⟨?_, ?_⟩ <;> omega) | (simp; done) | (simp; omega) | (intros; omega)) ?_))))
  refine awp_cond (by first | rfl | (simp only [xr, simprocAttr]; rfl)) (fun hc => ?_) (fun hc => ?_)
  · simp at hc
  · (repeat (first | refine awp_seq ?_ | refine awp_block ?_ | ((first | refine awp_skip ?_ | refine awp_exit ?_); try simp only [xq, simprocAttr]) | (refine awp_ret ?_; try simp only [xq, simprocAttr]) | ((first | refine awp_reg ?_ | refine awp_anyR (by rfl) (by kernel_rfl) (by kernel_rfl) ?_); simp only [xr, simprocAttr]; repeat (guard_target =~ _ ∧ _; refine And.intro (by first | trivial | (unfold I64; omega) | omega | (refine ⟨?_, ?_⟩ <;> omega) | (simp; done) | (simp; omega) | (intros; omega)) ?_))))
    (simp only [xe, simprocAttr]; refine ⟨_, rfl, rfl, Imp.eq ?_⟩)
    rfl
theorem heldI_0 (k : Int) : Does Try.prog 41 [.sl (.ints []), .int k] (.imm (.int k)) := by
  refine spec_imm Try.func41 rfl Try.ntmps41 cfOK (fun _ _ => by kernel_rfl) rfl (Nat.le_of_ble_eq_true rfl) ?_
  intro M0 w0
  rw [Try.results41]
  (repeat (first | refine awp_seq ?_ | refine awp_block ?_ | ((first | refine awp_skip ?_ | refine awp_exit ?_); try simp only [xq, simprocAttr]) | (refine awp_ret ?_; try simp only [xq, simprocAttr]) | ((first | refine awp_reg ?_ | refine awp_anyR (by rfl) (by kernel_rfl) (by kernel_rfl) ?_); simp only [xr, simprocAttr]; repeat (guard_target =~ _ ∧ _; refine And.intro (by first | trivial | (unfold I64; omega) | omega | (refine ⟨?_, ?_⟩ <;> omega) | (simp; done) | (simp; omega) | (intros; omega)) ?_))))
  refine awp_rounds (α := Nat) (fun _ => [(5, true, .int 0), (1, true, .int k)]) [0] (fun _ => []) (fun _ => True) (fun i => i) 0 (by ((try simp only [xk]); (repeat (refine leK_cons ?_ ?_; first | (focus (first | rfl | (simp only [xr, simprocAttr]; done) | (simp only [xr, simprocAttr]; refine int_eq1 ?_; first | trivial | (unfold I64; omega) | omega | (refine ⟨?_, ?_⟩ <;> omega) | (simp; done) | (simp; omega) | (intros; omega)))) | rotate_left)); (try exact leK_nil rfl); (all_goals (try (simp only [xr, simprocAttr]; try refine int_eq1 ?_))))) trivial fun i _ => ?_
  simp only [xr, simprocAttr]
  (repeat (first | refine awp_seq ?_ | refine awp_block ?_ | ((first | refine awp_skip ?_ | refine awp_exit ?_); try simp only [xq, simprocAttr]) | (refine awp_ret ?_; try simp only [xq, simprocAttr]) | ((first | refine awp_reg ?_ | refine awp_anyR (by rfl) (by kernel_rfl) (by kernel_rfl) ?_); simp only [xr, simprocAttr]; repeat (guard_target =~ _ ∧ _; refine And.intro (by first | trivial | (unfold I64; omega) | omega | (refine ⟨?_, ?_⟩ <;> omega) | (simp; done) | (simp; omega) | (intros; omega)) ?_))))
  refine awp_cond (by first | rfl | (simp only [xr, simprocAttr]; rfl)) (fun hc => ?_) (fun hc => ?_)
  · simp at hc
  · (repeat (first | refine awp_seq ?_ | refine awp_block ?_ | ((first | refine awp_skip ?_ | refine awp_exit ?_); try simp only [xq, simprocAttr]) | (refine awp_ret ?_; try simp only [xq, simprocAttr]) | ((first | refine awp_reg ?_ | refine awp_anyR (by rfl) (by kernel_rfl) (by kernel_rfl) ?_); simp only [xr, simprocAttr]; repeat (guard_target =~ _ ∧ _; refine And.intro (by first | trivial | (unfold I64; omega) | omega | (refine ⟨?_, ?_⟩ <;> omega) | (simp; done) | (simp; omega) | (intros; omega)) ?_))))
    (simp only [xe, simprocAttr]; refine ⟨_, rfl, rfl, Imp.eq ?_⟩)
    rfl
theorem markProblem_h (k : Int) (m s : List (List Int)) (hk : 0 ≤ k ∧ k + nII m + nII s ≤ 1073741824) (hm : m.length ≤ 1048576) (hms : ∀ x ∈ m, x.length ≤ 1048576) (hs : s.length ≤ 1048576) (hss : ∀ x ∈ s, x.length ≤ 1048576) :
    DoesH Try.prog 31 [.tv (.agg [.own 0, .own 1]), .int k] [true, true] [.tree [27, 3] (.ii m), .tree [27, 3] (.ii s)] (.int (k + nII m + nII s)) [.tree [27, 3] (.ii (mkII k m)), .tree [27, 3] (.ii (mkII (k + nII m) s))] := by
  refine spec_hB Try.func31 rfl Try.ntmps31 cfOK (fun _ _ => by kernel_rfl) rfl rfl rfl ?_
  intro M0 w0 S φ0
  rw [Try.results31]
  (repeat (first | refine awp_seq ?_ | refine awp_block ?_ | ((first | refine awp_skip ?_ | refine awp_exit ?_); try simp only [xq, simprocAttr]) | (refine awp_ret ?_; try simp only [xq, simprocAttr]) | ((first | refine awp_reg ?_ | refine awp_anyR (by rfl) (by kernel_rfl) (by kernel_rfl) ?_); simp only [xr, simprocAttr]; repeat (guard_target =~ _ ∧ _; refine And.intro (by first | trivial | (unfold I64; omega) | omega | (refine ⟨?_, ?_⟩ <;> omega) | (simp; done) | (simp; omega) | (intros; omega)) ?_))))
  (refine .inr (callW_a [0] (markII_h k m ⟨by omega, by omega⟩ hm hms) rfl rfl rfl rfl ⟨rfl, trivial⟩ rfl rfl rfl rfl ?_); (try simp only [xr, simprocAttr]); repeat (guard_target =~ _ ∧ _; refine And.intro (by first | trivial | (unfold I64; omega) | omega | (refine ⟨?_, ?_⟩ <;> omega) | (simp; done) | (simp; omega) | (intros; omega)) ?_))
  (repeat (first | refine awp_seq ?_ | refine awp_block ?_ | ((first | refine awp_skip ?_ | refine awp_exit ?_); try simp only [xq, simprocAttr]) | (refine awp_ret ?_; try simp only [xq, simprocAttr]) | ((first | refine awp_reg ?_ | refine awp_anyR (by rfl) (by kernel_rfl) (by kernel_rfl) ?_); simp only [xr, simprocAttr]; repeat (guard_target =~ _ ∧ _; refine And.intro (by first | trivial | (unfold I64; omega) | omega | (refine ⟨?_, ?_⟩ <;> omega) | (simp; done) | (simp; omega) | (intros; omega)) ?_))))
  (refine .inr (callW_a [1] (markII_h (k + nII m) s ⟨by omega, by omega⟩ hs hss) rfl rfl rfl rfl ⟨rfl, trivial⟩ rfl rfl rfl rfl ?_); (try simp only [xr, simprocAttr]); repeat (guard_target =~ _ ∧ _; refine And.intro (by first | trivial | (unfold I64; omega) | omega | (refine ⟨?_, ?_⟩ <;> omega) | (simp; done) | (simp; omega) | (intros; omega)) ?_))
  (repeat (first | refine awp_seq ?_ | refine awp_block ?_ | ((first | refine awp_skip ?_ | refine awp_exit ?_); try simp only [xq, simprocAttr]) | (refine awp_ret ?_; try simp only [xq, simprocAttr]) | ((first | refine awp_reg ?_ | refine awp_anyR (by rfl) (by kernel_rfl) (by kernel_rfl) ?_); simp only [xr, simprocAttr]; repeat (guard_target =~ _ ∧ _; refine And.intro (by first | trivial | (unfold I64; omega) | omega | (refine ⟨?_, ?_⟩ <;> omega) | (simp; done) | (simp; omega) | (intros; omega)) ?_))))
  (simp only [ends_normal, ends_ret]; refine retH_1 [0, 1] rfl ⟨rfl, rfl, trivial⟩ rfl rfl rfl rfl rfl ?_; try rfl)
theorem markMixture_h (k : Int) (ws : List Int) (ns : List (List (List Int))) (hk : 0 ≤ k ∧ k + ws.length + nIII ns ≤ 1073741824) (hw : ws.length ≤ 1048576) (hn : ns.length ≤ 1048576) (hns : ∀ x ∈ ns, x.length ≤ 1048576 ∧ ∀ y ∈ x, y.length ≤ 1048576) :
    DoesH Try.prog 61 [.tv (.agg [.own 0, .own 1]), .int k] [true, true] [.row 3 (.ints ws), .tree [22, 27, 3] (.iii ns)] (.int (k + ws.length + nIII ns)) [.row 3 (.ints (mkI k ws)), .tree [22, 27, 3] (.iii (mkIII (k + ws.length) ns))] := by
  refine spec_hB Try.func61 rfl Try.ntmps61 cfOK (fun _ _ => by kernel_rfl) rfl rfl rfl ?_
  intro M0 w0 S φ0
  rw [Try.results61]
  (repeat (first | refine awp_seq ?_ | refine awp_block ?_ | ((first | refine awp_skip ?_ | refine awp_exit ?_); try simp only [xq, simprocAttr]) | (refine awp_ret ?_; try simp only [xq, simprocAttr]) | ((first | refine awp_reg ?_ | refine awp_anyR (by rfl) (by kernel_rfl) (by kernel_rfl) ?_); simp only [xr, simprocAttr]; repeat (guard_target =~ _ ∧ _; refine And.intro (by first | trivial | (unfold I64; omega) | omega | (refine ⟨?_, ?_⟩ <;> omega) | (simp; done) | (simp; omega) | (intros; omega)) ?_))))
  (refine .inr (callW_a [0] (markI_h k ws ⟨by omega, by omega⟩ hw) rfl rfl rfl rfl ⟨rfl, trivial⟩ rfl rfl rfl rfl ?_); (try simp only [xr, simprocAttr]); repeat (guard_target =~ _ ∧ _; refine And.intro (by first | trivial | (unfold I64; omega) | omega | (refine ⟨?_, ?_⟩ <;> omega) | (simp; done) | (simp; omega) | (intros; omega)) ?_))
  (repeat (first | refine awp_seq ?_ | refine awp_block ?_ | ((first | refine awp_skip ?_ | refine awp_exit ?_); try simp only [xq, simprocAttr]) | (refine awp_ret ?_; try simp only [xq, simprocAttr]) | ((first | refine awp_reg ?_ | refine awp_anyR (by rfl) (by kernel_rfl) (by kernel_rfl) ?_); simp only [xr, simprocAttr]; repeat (guard_target =~ _ ∧ _; refine And.intro (by first | trivial | (unfold I64; omega) | omega | (refine ⟨?_, ?_⟩ <;> omega) | (simp; done) | (simp; omega) | (intros; omega)) ?_))))
  (refine .inr (callW_a [1] (markIII_h (k + ws.length) ns ⟨by omega, by omega⟩ hn hns) rfl rfl rfl rfl ⟨rfl, trivial⟩ rfl rfl rfl rfl ?_); (try simp only [xr, simprocAttr]); repeat (guard_target =~ _ ∧ _; refine And.intro (by first | trivial | (unfold I64; omega) | omega | (refine ⟨?_, ?_⟩ <;> omega) | (simp; done) | (simp; omega) | (intros; omega)) ?_))
  (repeat (first | refine awp_seq ?_ | refine awp_block ?_ | ((first | refine awp_skip ?_ | refine awp_exit ?_); try simp only [xq, simprocAttr]) | (refine awp_ret ?_; try simp only [xq, simprocAttr]) | ((first | refine awp_reg ?_ | refine awp_anyR (by rfl) (by kernel_rfl) (by kernel_rfl) ?_); simp only [xr, simprocAttr]; repeat (guard_target =~ _ ∧ _; refine And.intro (by first | trivial | (unfold I64; omega) | omega | (refine ⟨?_, ?_⟩ <;> omega) | (simp; done) | (simp; omega) | (intros; omega)) ?_))))
  (simp only [ends_normal, ends_ret]; refine retH_1 [0, 1] rfl ⟨rfl, rfl, trivial⟩ rfl rfl rfl rfl rfl ?_; try rfl)
end Go.Proofs.Ytlmhajdhpdpanaa
