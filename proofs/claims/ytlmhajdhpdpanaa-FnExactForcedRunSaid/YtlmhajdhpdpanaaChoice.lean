/- Choices of games on the machine: small facts. Conditions: games that are whole. -/
import Derived.Test.YtlmhajdhpdpanaaGameG
import Derived.Test.YtlmhajdhpdpanaaGameC
set_option linter.all false
set_option linter.unusedSimpArgs false
set_option linter.unusedVariables false
namespace Go.Proofs.Ytlmhajdhpdpanaa
open Go Go.RowKit Am

abbrev bT (b : Bool) : TV := .one (.b (.val (.bool b)))
theorem map_at {α β : Type} {f : α → β} {xs : List α} {k : Nat} (h : k < xs.length) (d : α) (d' : β) : (xs.map f).getD k d' = f (xs.getD k d) := by simp [h]
theorem ch4_at {ch : List (List (List (List Int)))} {i : Nat} (h : i < ch.length) : (ch4 ch).getD i [] = (ch.getD i []).map fun r => r.map c4 := map_at h [] []
theorem ch4_at2 {ch : List (List (List (List Int)))} {i r : Nat} (h : i < ch.length) (hr : r < (ch.getD i []).length) : ((ch4 ch).getD i []).getD r [] = ((ch.getD i []).getD r []).map c4 := by
  rw [ch4_at h]
  exact map_at hr [] []
theorem all_no {α : Type} {p : α → Bool} {xs : List α} {i : Nat} (hi : i < xs.length) (d : α) (h : p (xs.getD i d) = false) : xs.all p = false := by
  rw [Bool.eq_false_iff]
  intro e
  have := List.all_eq_true.1 e (xs.getD i d) (by rw [getD_in hi]; exact List.getElem_mem hi)
  rw [h] at this
  cases this
theorem gmQ_eq {m s : List (List Int)} {y : Nat} (h : takesB m s y [] = true) : gmQ m s y = gm m s y := by unfold gmQ; rw [h, Int.toNat_natCast]; rfl
theorem gmQ_takes {m s : List (List Int)} {x : Int} (h : (gmQ m s x).2 = false) : takesB m s x [] = true := by
  cases e : takesB m s x []
  · rw [gmQ_bad e] at h; cases h
  · rfl
theorem gmQ_full {m s : List (List Int)} {x : Int} (h : (gmQ m s x).2 = false) : GmFull m s (gmQ m s x).1 := by
  have ht := gmQ_takes h
  obtain ⟨hp, ⟨y, rfl, hy⟩, -, -⟩ := takes_ok ht
  rw [gmQ_eq ht] at h ⊢
  exact gm_full hp hy h
theorem gameOf_g {m s : List (List Int)} {x : Int} (h : (gmQ m s x).2 = false) : DoesH Try.prog 67 [prA m s, .int x] [] [] (.tup [.one (.ptr 0 0), .one (.b (.val (.bool true)))]) [.box [.own 1, .own 2], .row 175 (.k 2 (gmQ m s x).1.list), .row 103 (.kii 6 (gmQ m s x).1.ch)] := by
  have := gameOf_h m s x
  unfold gmR gmO at this
  rw [h] at this
  exact this
theorem gameOf_b {m s : List (List Int)} {x : Int} (h : (gmQ m s x).2 = true) : DoesH Try.prog 67 [prA m s, .int x] [] [] (.tup [.one (.b (.val (.pointer none))), .one (.b (.val (.bool false)))]) [] := by
  have := gameOf_h m s x
  unfold gmR gmO at this
  rw [h] at this
  exact this
abbrev six (c : List Int) : AV := .tv (.agg [.b (.val (.int .i64 (c.getD 0 0))), .b (.val (.int .i64 (c.getD 1 0))), .b (.val (.int .i64 (c.getD 2 0))), .b (.val (.int .i64 (c.getD 3 0))), .b (.val (.int .i64 (c.getD 4 0))), .b (.val (.int .i64 (c.getD 5 0)))])
theorem indexFuncC_d (xs : List (List Int)) (K : Nat) (caps : List Lf) (p : List Int → Bool) (hcap : caps.all capOK = true) (hK : ∀ j, j < xs.length → Does Try.prog K (six (xs.getD j []) :: caps.map fun y => .tv (.one y)) (.imm (.bool (p (xs.getD j []))))) :
    Does Try.prog 82 [.sl (.k 6 xs), .clo K caps] (.imm (.int (idxOf p xs))) := by
  refine spec_imm Try.func82 rfl Try.ntmps82 cfOK (fun _ _ => by kernel_rfl) (by simp only [List.all_cons, List.all_nil, clo_free hcap]; rfl) (Nat.le_of_ble_eq_true rfl) ?_
  intro M0 w0
  rw [Try.results82]
  (refine awp_fits 0 rfl fun hf => ?_; simp only [xp, simprocAttr] at hf; simp only [xf, simprocAttr] at hf)
  (repeat (first | refine awp_seq ?_ | refine awp_block ?_ | ((first | refine awp_skip ?_ | refine awp_exit ?_); try simp only [xq, simprocAttr]) | (refine awp_ret ?_; try simp only [xq, simprocAttr]) | ((first | refine awp_reg ?_ | refine awp_anyR (by rfl) (by kernel_rfl) (by kernel_rfl) ?_); simp only [xr, simprocAttr]; repeat (guard_target =~ _ ∧ _; refine And.intro (by first | trivial | (unfold I64; omega) | omega | (refine ⟨?_, ?_⟩ <;> omega) | (simp; done) | (simp; omega) | (intros; omega)) ?_))))
  refine awp_rounds (α := Nat) (fun k => [(8, true, .int k)]) [0, 1, 6, 7] (fun _ => []) (fun k => k ≤ xs.length ∧ ∀ x ∈ xs.take k, p x = false) (fun k => xs.length - k) 0 (by ((try simp only [xk]); (repeat (refine leK_cons ?_ ?_; first | (focus (first | rfl | (simp only [xr, simprocAttr]; done) | (simp only [xr, simprocAttr]; refine int_eq1 ?_; first | trivial | (unfold I64; omega) | omega | (refine ⟨?_, ?_⟩ <;> omega) | (simp; done) | (simp; omega) | (intros; omega)))) | rotate_left)); (try exact leK_nil rfl); (all_goals (try (simp only [xr, simprocAttr]; try refine int_eq1 ?_))))) ⟨Nat.zero_le _, by simp⟩ fun k hk => ?_
  obtain ⟨hk, hp⟩ := hk
  simp only [xr, simprocAttr]
  (repeat (first | refine awp_seq ?_ | refine awp_block ?_ | ((first | refine awp_skip ?_ | refine awp_exit ?_); try simp only [xq, simprocAttr]) | (refine awp_ret ?_; try simp only [xq, simprocAttr]) | ((first | refine awp_reg ?_ | refine awp_anyR (by rfl) (by kernel_rfl) (by kernel_rfl) ?_); simp only [xr, simprocAttr]; repeat (guard_target =~ _ ∧ _; refine And.intro (by first | trivial | (unfold I64; omega) | omega | (refine ⟨?_, ?_⟩ <;> omega) | (simp; done) | (simp; omega) | (intros; omega)) ?_))))
  refine awp_cond (by first | rfl | (simp only [xr, simprocAttr]; rfl)) (fun hc => ?_) (fun hc => ?_)
  · have hk' : k < xs.length := by simpa using hc
    have hx : xs.getD k [] = xs[k] := by simp [hk']
    (repeat (first | refine awp_seq ?_ | refine awp_block ?_ | ((first | refine awp_skip ?_ | refine awp_exit ?_); try simp only [xq, simprocAttr]) | (refine awp_ret ?_; try simp only [xq, simprocAttr]) | ((first | refine awp_reg ?_ | refine awp_anyR (by rfl) (by kernel_rfl) (by kernel_rfl) ?_); simp only [xr, simprocAttr]; repeat (guard_target =~ _ ∧ _; refine And.intro (by first | trivial | (unfold I64; omega) | omega | (refine ⟨?_, ?_⟩ <;> omega) | (simp; done) | (simp; omega) | (intros; omega)) ?_))))
    (simp only [xr, simprocAttr, caps_view hcap]; repeat (guard_target =~ _ ∧ _; refine And.intro (by first | trivial | (unfold I64; omega) | omega | (refine ⟨?_, ?_⟩ <;> omega) | (simp; done) | (simp; omega) | (intros; omega)) ?_))
    ((first | refine .inl ⟨_, (hK k hk'), .inl rfl, ?_⟩ | refine ⟨_, (hK k hk'), .inl rfl, ?_⟩); (try simp only [xr, simprocAttr]); repeat (guard_target =~ _ ∧ _; refine And.intro (by first | trivial | (unfold I64; omega) | omega | (refine ⟨?_, ?_⟩ <;> omega) | (simp; done) | (simp; omega) | (intros; omega)) ?_))
    (repeat (first | refine awp_seq ?_ | refine awp_block ?_ | ((first | refine awp_skip ?_ | refine awp_exit ?_); try simp only [xq, simprocAttr]) | (refine awp_ret ?_; try simp only [xq, simprocAttr]) | ((first | refine awp_reg ?_ | refine awp_anyR (by rfl) (by kernel_rfl) (by kernel_rfl) ?_); simp only [xr, simprocAttr]; repeat (guard_target =~ _ ∧ _; refine And.intro (by first | trivial | (unfold I64; omega) | omega | (refine ⟨?_, ?_⟩ <;> omega) | (simp; done) | (simp; omega) | (intros; omega)) ?_))))
    refine awp_cond (by first | rfl | (simp only [xr, simprocAttr]; rfl)) (fun hd => ?_) (fun hd => ?_)
    · (repeat (first | refine awp_seq ?_ | refine awp_block ?_ | ((first | refine awp_skip ?_ | refine awp_exit ?_); try simp only [xq, simprocAttr]) | (refine awp_ret ?_; try simp only [xq, simprocAttr]) | ((first | refine awp_reg ?_ | refine awp_anyR (by rfl) (by kernel_rfl) (by kernel_rfl) ?_); simp only [xr, simprocAttr]; repeat (guard_target =~ _ ∧ _; refine And.intro (by first | trivial | (unfold I64; omega) | omega | (refine ⟨?_, ?_⟩ <;> omega) | (simp; done) | (simp; omega) | (intros; omega)) ?_))))
      (simp only [xe, simprocAttr]; refine ⟨_, rfl, rfl, Imp.eq ?_⟩)
      rw [hx] at hd
      rw [idxOf_some hk' hd hp]
    · (repeat (first | refine awp_seq ?_ | refine awp_block ?_ | ((first | refine awp_skip ?_ | refine awp_exit ?_); try simp only [xq, simprocAttr]) | (refine awp_ret ?_; try simp only [xq, simprocAttr]) | ((first | refine awp_reg ?_ | refine awp_anyR (by rfl) (by kernel_rfl) (by kernel_rfl) ?_); simp only [xr, simprocAttr]; repeat (guard_target =~ _ ∧ _; refine And.intro (by first | trivial | (unfold I64; omega) | omega | (refine ⟨?_, ?_⟩ <;> omega) | (simp; done) | (simp; omega) | (intros; omega)) ?_))))
      refine ⟨k + 1, by omega, fun x hx' => ?_, by omega, .inl ?_⟩
      · rw [List.take_succ_eq_append_getElem hk', List.mem_append, List.mem_singleton] at hx'
        rcases hx' with hx' | rfl
        · exact hp x hx'
        · rw [← hx]; exact hd
      · ((try simp only [xk]); (repeat (refine leK_cons ?_ ?_; first | (focus (first | rfl | (simp only [xr, simprocAttr]; done) | (simp only [xr, simprocAttr]; refine int_eq1 ?_; first | trivial | (unfold I64; omega) | omega | (refine ⟨?_, ?_⟩ <;> omega) | (simp; done) | (simp; omega) | (intros; omega)))) | rotate_left)); (try exact leK_nil rfl); (all_goals (try (simp only [xr, simprocAttr]; try refine int_eq1 ?_))))
  · have hk' : k = xs.length := by simp at hc; omega
    subst hk'
    rw [List.take_length] at hp
    (repeat (first | refine awp_seq ?_ | refine awp_block ?_ | ((first | refine awp_skip ?_ | refine awp_exit ?_); try simp only [xq, simprocAttr]) | (refine awp_ret ?_; try simp only [xq, simprocAttr]) | ((first | refine awp_reg ?_ | refine awp_anyR (by rfl) (by kernel_rfl) (by kernel_rfl) ?_); simp only [xr, simprocAttr]; repeat (guard_target =~ _ ∧ _; refine And.intro (by first | trivial | (unfold I64; omega) | omega | (refine ⟨?_, ?_⟩ <;> omega) | (simp; done) | (simp; omega) | (intros; omega)) ?_))))
    (simp only [xe, simprocAttr]; refine ⟨_, rfl, rfl, Imp.eq ?_⟩)
    rw [idxOf_none hp]
end Go.Proofs.Ytlmhajdhpdpanaa
