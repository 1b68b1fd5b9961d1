/- Games on the machine: the reference's. Conditions: none. -/
import Derived.Test.YtlmhajdhpdpanaaGame
set_option linter.all false
set_option linter.unusedSimpArgs false
set_option linter.unusedVariables false
namespace Go.Proofs.Ytlmhajdhpdpanaa
open Go Go.RowKit Am

/-- what the reference keeps of a choice -/
def c4 (c : List Int) : List Int := [c.getD 5 0, c.getD 1 0, c.getD 2 0, c.getD 3 0]
def ch4 (ch : List (List (List (List Int)))) : List (List (List (List Int))) := ch.map fun a => a.map fun r => r.map c4
def gmA (q : GmT × Bool) : TV := .agg [.b (.sl (.k 2 q.1.list)), .b (.sl (.kii 4 (ch4 q.1.ch))), .b (.val (.bool q.2))]
theorem srv_le (s : List (List Int)) {n n' : Nat} (r : Nat) (h : n ≤ n') : (srv s n r).length ≤ (srv s n' r).length := by
  induction h with
  | refl => exact Nat.le_refl _
  | step h ih =>
    rw [srv_step]
    split
    · simp; omega
    · exact ih
theorem posT_new {l : List (List Int)} {x : List Int} : posT l x = (l.length : Int) ↔ whereT l x < 0 := by
  unfold posT
  by_cases h : whereT l x < 0
  · rw [if_pos h]
    exact ⟨fun _ => h, fun _ => rfl⟩
  · rw [if_neg h]
    obtain ⟨k, hk, h1, -⟩ := idxOf_lt (Int.not_lt.1 h)
    have h1 : whereT l x = k := h1
    omega
set_option maxHeartbeats 2000000 in
theorem l10Make_d (m s : List (List Int)) (y : Nat) (hp : probB m s = true) (hy : y < m.length) : Does Try.prog 123 [prA m s, .int y] (.imm (.tv (gmA (gm m s y)))) := by
  have hl := prob_len hp
  refine spec_imm Try.func123 rfl Try.ntmps123 cfOK (fun _ _ => by kernel_rfl) rfl (Nat.le_of_ble_eq_true rfl) ?_
  intro M0 w0
  rw [Try.results123]
  (repeat (first | refine awp_seq ?_ | refine awp_block ?_ | ((first | refine awp_skip ?_ | refine awp_exit ?_); try simp only [xq, simprocAttr]) | (refine awp_ret ?_; try simp only [xq, simprocAttr]) | ((first | refine awp_reg ?_ | refine awp_anyR (by rfl) (by kernel_rfl) (by kernel_rfl) ?_); simp only [xr, simprocAttr]; repeat (guard_target =~ _ ∧ _; refine And.intro (by first | trivial | (unfold I64; omega) | omega | (refine ⟨?_, ?_⟩ <;> omega) | (simp; done) | (simp; omega) | (intros; omega)) ?_))))
  cases ho : (offs m s y).2
  · have ht := tab_ok hp hy ho
    have hc := l8All_d m s y hp hy
    unfold offA at hc
    rw [ho] at hc
    have hg0 : gm m s y = gmRun m s (offs m s y).1 y 100 0 := by unfold gm; rw [ho]; rfl
    rw [hg0]
    generalize (offs m s y).1 = t at ht hc
    ((first | refine .inl ⟨_, hc, .inr (by and_intros <;> first | rfl | (simp; done)), ?_⟩ | refine ⟨_, hc, .inr (by and_intros <;> first | rfl | (simp; done)), ?_⟩); (try simp only [xr, simprocAttr]); repeat (guard_target =~ _ ∧ _; refine And.intro (by first | trivial | (unfold I64; omega) | omega | (refine ⟨?_, ?_⟩ <;> omega) | (simp; done) | (simp; omega) | (intros; omega)) ?_))
    ((repeat (first | refine awp_seq ?_ | refine awp_block ?_ | ((first | refine awp_skip ?_ | refine awp_exit ?_); try simp only [xq, simprocAttr]))); refine awp_regO [false, false, true] ?_; simp only [xr, simprocAttr]; repeat (guard_target =~ _ ∧ _; refine And.intro (by first | trivial | (unfold I64; omega) | omega | (refine ⟨?_, ?_⟩ <;> omega) | (simp; done) | (simp; omega) | (intros; omega)) ?_))
    (refine awp_nil 4 1 128 (.kii 4 []) rfl rfl rfl (by first | trivial | (intro _ h; cases h)) ?_; simp only [xr, simprocAttr])
    (repeat (first | refine awp_seq ?_ | refine awp_block ?_ | ((first | refine awp_skip ?_ | refine awp_exit ?_); try simp only [xq, simprocAttr]) | (refine awp_ret ?_; try simp only [xq, simprocAttr]) | ((first | refine awp_reg ?_ | refine awp_anyR (by rfl) (by kernel_rfl) (by kernel_rfl) ?_); simp only [xr, simprocAttr]; repeat (guard_target =~ _ ∧ _; refine And.intro (by first | trivial | (unfold I64; omega) | omega | (refine ⟨?_, ?_⟩ <;> omega) | (simp; done) | (simp; omega) | (intros; omega)) ?_))))
    refine awp_rounds (α := Nat × Bool) (fun p => [(7, true, .int p.1)]) [2, 4, 5, 6] (fun p => [.box [.b (.sl (.ii m)), .b (.sl (.ii s))], .box [.b (.val (.slice none 0 0)), .b (.val (.slice none 0 0)), .b (.val (.bool false))], .box [.b (.sl (.ii t.list)), .b (.sl (.ii t.next)), .b (.sl (.ii t.grows)), .b (.val (.bool false))], .row 175 (.k 2 (gmT m s t y p.1).list), .box [.own 3, .own 5, .b (.val (.bool p.2))], .row 128 (.kii 4 (ch4 (gmT m s t y p.1).ch))]) (fun p => (p.2 = false ∧ GmI m s t y p.1) ∨ (p.2 = true ∧ p.1 ≤ 61 ∧ gmRun m s t y 100 0 = (gmT m s t y p.1, true))) (fun p => 62 - p.1) (0, false) (by ((try simp only [xk]); (repeat (refine leK_cons ?_ ?_; first | (focus (first | rfl | (simp only [xr, simprocAttr]; done) | (simp only [xr, simprocAttr]; refine int_eq1 ?_; first | trivial | (unfold I64; omega) | omega | (refine ⟨?_, ?_⟩ <;> omega) | (simp; done) | (simp; omega) | (intros; omega)))) | rotate_left)); (refine leK_nil ?_; exact (by rfl)); (all_goals (try (simp only [xr, simprocAttr]; try refine int_eq1 ?_))))) (.inl ⟨rfl, GmI.first m s t y⟩) fun p hi => ?_
    obtain ⟨i, bad⟩ := p
    rcases hi with ⟨hb, hi⟩ | ⟨hb, hb1, hb2⟩
    · simp only at hb hi
      subst hb
      have hile := hi.le
      have hlen := hi.len
      have hok := gmT_ok ht hy i hi.lt
      have hcl := hok.clen
      have hcl4 : (ch4 (gmT m s t y i).ch).length = i := by simp [ch4, hcl]
      simp only [xr, simprocAttr]
      (repeat (first | refine awp_seq ?_ | refine awp_block ?_ | ((first | refine awp_skip ?_ | refine awp_exit ?_); try simp only [xq, simprocAttr]) | (refine awp_ret ?_; try simp only [xq, simprocAttr]) | ((first | refine awp_reg ?_ | refine awp_anyR (by rfl) (by kernel_rfl) (by kernel_rfl) ?_); simp only [xr, simprocAttr]; repeat (guard_target =~ _ ∧ _; refine And.intro (by first | trivial | (unfold I64; omega) | omega | (refine ⟨?_, ?_⟩ <;> omega) | (simp; done) | (simp; omega) | (intros; omega)) ?_))))
      refine awp_cond (by first | rfl | (simp only [xr, simprocAttr]; rfl)) (fun he => ?_) (fun he => ?_)
      · have hlt : i < (gmT m s t y i).list.length := by
          by_cases h : (i : Int) < (gmT m s t y i).list.length
          · omega
          · rw [decide_eq_false h] at he; cases he
        obtain ⟨st, w, hpos, hst, hof, hsl, hwl⟩ := gm_at hok hlt
        have htl := ht.nlen
        have htg := ht.glen
        have hms := prob_m hp hsl
        (repeat (first | refine awp_seq ?_ | refine awp_block ?_ | ((first | refine awp_skip ?_ | refine awp_exit ?_); try simp only [xq, simprocAttr]) | (refine awp_ret ?_; try simp only [xq, simprocAttr]) | ((first | refine awp_reg ?_ | refine awp_anyR (by rfl) (by kernel_rfl) (by kernel_rfl) ?_); simp only [xr, simprocAttr]; repeat (guard_target =~ _ ∧ _; refine And.intro (by first | trivial | (unfold I64; omega) | omega | (refine ⟨?_, ?_⟩ <;> omega) | (simp; done) | (simp; omega) | (intros; omega)) ?_))))
        rw [hpos]
        simp only [xr, simprocAttr]
        (repeat (first | refine awp_seq ?_ | refine awp_block ?_ | ((first | refine awp_skip ?_ | refine awp_exit ?_); try simp only [xq, simprocAttr]) | (refine awp_ret ?_; try simp only [xq, simprocAttr]) | ((first | refine awp_reg ?_ | refine awp_anyR (by rfl) (by kernel_rfl) (by kernel_rfl) ?_); simp only [xr, simprocAttr]; repeat (guard_target =~ _ ∧ _; refine And.intro (by first | trivial | (unfold I64; omega) | omega | (refine ⟨?_, ?_⟩ <;> omega) | (simp; done) | (simp; omega) | (intros; omega)) ?_))))
        refine awp_rounds (α := Nat) (fun r => [(11, true, .int r)]) [2, 4, 5, 6, 7, 8, 9, 10] (fun r => [.box [.b (.sl (.ii m)), .b (.sl (.ii s))], .box [.b (.val (.slice none 0 0)), .b (.val (.slice none 0 0)), .b (.val (.bool false))], .box [.b (.sl (.ii t.list)), .b (.sl (.ii t.next)), .b (.sl (.ii t.grows)), .b (.val (.bool false))], .row 175 (.k 2 (gmAll m s t i st w (gmT m s t y i).list r).1), .box [.own 3, .own 5, .b (.val (.bool false))], .row 128 (.kii 4 (ch4 (gmT m s t y i).ch)), .row 136 (.ki 4 ((gmAll m s t i st w (gmT m s t y i).list r).2.map fun a => a.map c4))]) (fun r => r ≤ s.length) (fun r => s.length - r) 0 (by ((try simp only [xk]); (repeat (refine leK_cons ?_ ?_; first | (focus (first | rfl | (simp only [xr, simprocAttr]; done) | (simp only [xr, simprocAttr]; refine int_eq1 ?_; first | trivial | (unfold I64; omega) | omega | (refine ⟨?_, ?_⟩ <;> omega) | (simp; done) | (simp; omega) | (intros; omega)))) | rotate_left)); (refine leK_nil ?_; exact (by rfl)); (all_goals (try (simp only [xr, simprocAttr]; try refine int_eq1 ?_))))) (Nat.zero_le _) fun r hr => ?_
        have hmul : r * m.length ≤ 4 * 4 := Nat.mul_le_mul (by omega) (by omega)
        have hal := gmAll_len m s t i st w (gmT m s t y i).list r
        have ham := gmAll_mem ht hwl hok.el (i := i) (st := st) r hr
        have hal4 : ((gmAll m s t i st w (gmT m s t y i).list r).2.map fun a => a.map c4).length = r := by rw [List.length_map, hal.2.2]
        simp only [xr, simprocAttr]
        (repeat (first | refine awp_seq ?_ | refine awp_block ?_ | ((first | refine awp_skip ?_ | refine awp_exit ?_); try simp only [xq, simprocAttr]) | (refine awp_ret ?_; try simp only [xq, simprocAttr]) | ((first | refine awp_reg ?_ | refine awp_anyR (by rfl) (by kernel_rfl) (by kernel_rfl) ?_); simp only [xr, simprocAttr]; repeat (guard_target =~ _ ∧ _; refine And.intro (by first | trivial | (unfold I64; omega) | omega | (refine ⟨?_, ?_⟩ <;> omega) | (simp; done) | (simp; omega) | (intros; omega)) ?_))))
        refine awp_cond (by first | rfl | (simp only [xr, simprocAttr]; rfl)) (fun hd => ?_) (fun hd => ?_)
        · have hd := of_decide_eq_true hd
          have hr' : r < s.length := by omega
          have hrow := prob_rows hp r hr'
          have htw := ht.row w hwl
          (repeat (first | refine awp_seq ?_ | refine awp_block ?_ | ((first | refine awp_skip ?_ | refine awp_exit ?_); try simp only [xq, simprocAttr]) | (refine awp_ret ?_; try simp only [xq, simprocAttr]) | ((first | refine awp_reg ?_ | refine awp_anyR (by rfl) (by kernel_rfl) (by kernel_rfl) ?_); simp only [xr, simprocAttr]; repeat (guard_target =~ _ ∧ _; refine And.intro (by first | trivial | (unfold I64; omega) | omega | (refine ⟨?_, ?_⟩ <;> omega) | (simp; done) | (simp; omega) | (intros; omega)) ?_))))
          refine awp_rounds (α := Nat) (fun u => [(13, true, .int u)]) [2, 4, 5, 6, 7, 8, 9, 10, 11, 12] (fun u => [.box [.b (.sl (.ii m)), .b (.sl (.ii s))], .box [.b (.val (.slice none 0 0)), .b (.val (.slice none 0 0)), .b (.val (.bool false))], .box [.b (.sl (.ii t.list)), .b (.sl (.ii t.next)), .b (.sl (.ii t.grows)), .b (.val (.bool false))], .row 175 (.k 2 (gmRow m s t i st w r (gmAll m s t i st w (gmT m s t y i).list r).1 (srv s u r)).1), .box [.own 3, .own 5, .b (.val (.bool false))], .row 128 (.kii 4 (ch4 (gmT m s t y i).ch)), .row 136 (.ki 4 ((gmAll m s t i st w (gmT m s t y i).list r).2.map fun a => a.map c4)), .row 138 (.k 4 ((gmRow m s t i st w r (gmAll m s t i st w (gmT m s t y i).list r).1 (srv s u r)).2.map c4))]) (fun u => u ≤ m.length) (fun u => m.length - u) 0 (by ((try simp only [xk]); (repeat (refine leK_cons ?_ ?_; first | (focus (first | rfl | (simp only [xr, simprocAttr]; done) | (simp only [xr, simprocAttr]; refine int_eq1 ?_; first | trivial | (unfold I64; omega) | omega | (refine ⟨?_, ?_⟩ <;> omega) | (simp; done) | (simp; omega) | (intros; omega)))) | rotate_left)); (refine leK_nil ?_; exact (by rfl)); (all_goals (try (simp only [xr, simprocAttr]; try refine int_eq1 ?_))))) (Nat.zero_le _) fun u hu => ?_
          have hsl4 := srv_len s u r
          have hrl := gmRow_len m s t i st w r (gmAll m s t i st w (gmT m s t y i).list r).1 (srv s u r)
          have hrl4 : ((gmRow m s t i st w r (gmAll m s t i st w (gmT m s t y i).list r).1 (srv s u r)).2.map c4).length ≤ 4 := by rw [List.length_map, hrl.2.2]; omega
          have hrm : ∀ p ∈ (gmRow m s t i st w r (gmAll m s t i st w (gmT m s t y i).list r).1 (srv s u r)).1, p.length = 2 := fun p hp => pos_len (gmFold_mem ht hwl hr' _ _ (srv_ok m s r u hu) ham p hp)
          simp only [xr, simprocAttr]
          (repeat (first | refine awp_seq ?_ | refine awp_block ?_ | ((first | refine awp_skip ?_ | refine awp_exit ?_); try simp only [xq, simprocAttr]) | (refine awp_ret ?_; try simp only [xq, simprocAttr]) | ((first | refine awp_reg ?_ | refine awp_anyR (by rfl) (by kernel_rfl) (by kernel_rfl) ?_); simp only [xr, simprocAttr]; repeat (guard_target =~ _ ∧ _; refine And.intro (by first | trivial | (unfold I64; omega) | omega | (refine ⟨?_, ?_⟩ <;> omega) | (simp; done) | (simp; omega) | (intros; omega)) ?_))))
          refine awp_cond (by first | rfl | (simp only [xr, simprocAttr]; rfl)) (fun hf => ?_) (fun hf => ?_)
          · have hf := of_decide_eq_true hf
            have hu' : u < m.length := by omega
            have hmu := hms.2 u hu'
            have hsu := prob_s hp hr' u hu'
            unfold at2 at hmu hsu
            (repeat (first | refine awp_seq ?_ | refine awp_block ?_ | ((first | refine awp_skip ?_ | refine awp_exit ?_); try simp only [xq, simprocAttr]) | (refine awp_ret ?_; try simp only [xq, simprocAttr]) | ((first | refine awp_reg ?_ | refine awp_anyR (by rfl) (by kernel_rfl) (by kernel_rfl) ?_); simp only [xr, simprocAttr]; repeat (guard_target =~ _ ∧ _; refine And.intro (by first | trivial | (unfold I64; omega) | omega | (refine ⟨?_, ?_⟩ <;> omega) | (simp; done) | (simp; omega) | (intros; omega)) ?_))))
            refine awp_cond (by first | rfl | (simp only [xr, simprocAttr]; rfl)) (fun hn => ?_) (fun hn => ?_)
            · have hn : ¬ 0 ≤ at2 s r u := by have hn := of_decide_eq_true hn; unfold at2; omega
              have hsr : srv s (u + 1) r = srv s u r := by rw [srv_step, if_neg hn]
              (repeat (first | refine awp_seq ?_ | refine awp_block ?_ | ((first | refine awp_skip ?_ | refine awp_exit ?_); try simp only [xq, simprocAttr]) | (refine awp_ret ?_; try simp only [xq, simprocAttr]) | ((first | refine awp_reg ?_ | refine awp_anyR (by rfl) (by kernel_rfl) (by kernel_rfl) ?_); simp only [xr, simprocAttr]; repeat (guard_target =~ _ ∧ _; refine And.intro (by first | trivial | (unfold I64; omega) | omega | (refine ⟨?_, ?_⟩ <;> omega) | (simp; done) | (simp; omega) | (intros; omega)) ?_))))
              refine ⟨u + 1, by omega, by omega, .inl ?_⟩
              ((try simp only [xk]); (repeat (refine leK_cons ?_ ?_; first | (focus (first | rfl | (simp only [xr, simprocAttr]; done) | (simp only [xr, simprocAttr]; refine int_eq1 ?_; first | trivial | (unfold I64; omega) | omega | (refine ⟨?_, ?_⟩ <;> omega) | (simp; done) | (simp; omega) | (intros; omega)))) | rotate_left)); (refine leK_nil ?_; exact (by rw [hsr])); (all_goals (try (simp only [xr, simprocAttr]; try refine int_eq1 ?_))))
            · have hn : 0 ≤ at2 s r u := by have hn := of_decide_eq_false hn; unfold at2; omega
              have hsr : srv s (u + 1) r = srv s u r ++ [(u : Int)] := by rw [srv_step, if_pos hn]
              (repeat (first | refine awp_seq ?_ | refine awp_block ?_ | ((first | refine awp_skip ?_ | refine awp_exit ?_); try simp only [xq, simprocAttr]) | (refine awp_ret ?_; try simp only [xq, simprocAttr]) | ((first | refine awp_reg ?_ | refine awp_anyR (by rfl) (by kernel_rfl) (by kernel_rfl) ?_); simp only [xr, simprocAttr]; repeat (guard_target =~ _ ∧ _; refine And.intro (by first | trivial | (unfold I64; omega) | omega | (refine ⟨?_, ?_⟩ <;> omega) | (simp; done) | (simp; omega) | (intros; omega)) ?_))))
              ((first | refine .inl ⟨_, (l10At_d _ _ _ hrm), .inl rfl, ?_⟩ | refine ⟨_, (l10At_d _ _ _ hrm), .inl rfl, ?_⟩); (try simp only [xr, simprocAttr]); repeat (guard_target =~ _ ∧ _; refine And.intro (by first | trivial | (unfold I64; omega) | omega | (refine ⟨?_, ?_⟩ <;> omega) | (simp; done) | (simp; omega) | (intros; omega)) ?_))
              (repeat (first | refine awp_seq ?_ | refine awp_block ?_ | ((first | refine awp_skip ?_ | refine awp_exit ?_); try simp only [xq, simprocAttr]) | (refine awp_ret ?_; try simp only [xq, simprocAttr]) | ((first | refine awp_reg ?_ | refine awp_anyR (by rfl) (by kernel_rfl) (by kernel_rfl) ?_); simp only [xr, simprocAttr]; repeat (guard_target =~ _ ∧ _; refine And.intro (by first | trivial | (unfold I64; omega) | omega | (refine ⟨?_, ?_⟩ <;> omega) | (simp; done) | (simp; omega) | (intros; omega)) ?_))))
              refine awp_cond (by first | rfl | (simp only [xr, simprocAttr]; rfl)) (fun hg => ?_) (fun hg => ?_)
              · have hg : whereT (gmRow m s t i st w r (gmAll m s t i st w (gmT m s t y i).list r).1 (srv s u r)).1 (keyG t w r u) < 0 := posT_new.1 (of_decide_eq_true hg)
                have h1 : addT (gmRow m s t i st w r (gmAll m s t i st w (gmT m s t y i).list r).1 (srv s u r)).1 (keyG t w r u) = (gmRow m s t i st w r (gmAll m s t i st w (gmT m s t y i).list r).1 (srv s u r)).1 ++ [keyG t w r u] := if_pos hg
                (repeat (first | refine awp_seq ?_ | refine awp_block ?_ | ((first | refine awp_skip ?_ | refine awp_exit ?_); try simp only [xq, simprocAttr]) | (refine awp_ret ?_; try simp only [xq, simprocAttr]) | ((first | refine awp_reg ?_ | refine awp_anyR (by rfl) (by kernel_rfl) (by kernel_rfl) ?_); simp only [xr, simprocAttr]; repeat (guard_target =~ _ ∧ _; refine And.intro (by first | trivial | (unfold I64; omega) | omega | (refine ⟨?_, ?_⟩ <;> omega) | (simp; done) | (simp; omega) | (intros; omega)) ?_))))
                ((repeat (first | refine awp_seq ?_ | refine awp_block ?_ | ((first | refine awp_skip ?_ | refine awp_exit ?_); try simp only [xq, simprocAttr]))); refine awp_anyM [3, 4] 13 [1] (by kernel_rfl) (by kernel_rfl) (by kernel_rfl) (by kernel_rfl) (by kernel_rfl) ?_; simp (maxSteps := 3000000) only [xr, simprocAttr]; repeat (guard_target =~ _ ∧ _; refine And.intro (by first | trivial | (unfold I64; omega) | omega | (refine ⟨?_, ?_⟩ <;> omega) | (simp; done) | (simp; omega) | (intros; omega)) ?_))
                (repeat (first | refine awp_seq ?_ | refine awp_block ?_ | ((first | refine awp_skip ?_ | refine awp_exit ?_); try simp only [xq, simprocAttr])))
                (refine awp_mv 3 8 rfl rfl (by decide) rfl rfl ?_; simp only [xm, simprocAttr])
                (repeat (first | refine awp_seq ?_ | refine awp_block ?_ | ((first | refine awp_skip ?_ | refine awp_exit ?_); try simp only [xq, simprocAttr]) | (refine awp_ret ?_; try simp only [xq, simprocAttr]) | ((first | refine awp_reg ?_ | refine awp_anyR (by rfl) (by kernel_rfl) (by kernel_rfl) ?_); simp only [xr, simprocAttr]; repeat (guard_target =~ _ ∧ _; refine And.intro (by first | trivial | (unfold I64; omega) | omega | (refine ⟨?_, ?_⟩ <;> omega) | (simp; done) | (simp; omega) | (intros; omega)) ?_))))
                ((repeat (first | refine awp_seq ?_ | refine awp_block ?_ | ((first | refine awp_skip ?_ | refine awp_exit ?_); try simp only [xq, simprocAttr]))); refine awp_anyM [7] 30 [] (by kernel_rfl) (by kernel_rfl) (by kernel_rfl) (by kernel_rfl) (by kernel_rfl) ?_; simp (maxSteps := 3000000) only [xr, simprocAttr]; repeat (guard_target =~ _ ∧ _; refine And.intro (by first | trivial | (unfold I64; omega) | omega | (refine ⟨?_, ?_⟩ <;> omega) | (simp; done) | (simp; omega) | (intros; omega)) ?_))
                (repeat (first | refine awp_seq ?_ | refine awp_block ?_ | ((first | refine awp_skip ?_ | refine awp_exit ?_); try simp only [xq, simprocAttr])))
                (refine awp_mv 7 9 rfl rfl (by decide) rfl rfl ?_; simp only [xm, simprocAttr])
                (repeat (first | refine awp_seq ?_ | refine awp_block ?_ | ((first | refine awp_skip ?_ | refine awp_exit ?_); try simp only [xq, simprocAttr]) | (refine awp_ret ?_; try simp only [xq, simprocAttr]) | ((first | refine awp_reg ?_ | refine awp_anyR (by rfl) (by kernel_rfl) (by kernel_rfl) ?_); simp only [xr, simprocAttr]; repeat (guard_target =~ _ ∧ _; refine And.intro (by first | trivial | (unfold I64; omega) | omega | (refine ⟨?_, ?_⟩ <;> omega) | (simp; done) | (simp; omega) | (intros; omega)) ?_))))
                refine ⟨u + 1, by omega, by omega, .inr ⟨8, Nat.le_of_ble_eq_true rfl, leT_of ?_ rfl rfl rfl⟩⟩
                ((try simp only [xk]); (repeat (refine leK_cons ?_ ?_; first | (focus (first | rfl | (simp only [xr, simprocAttr]; done) | (simp only [xr, simprocAttr]; refine int_eq1 ?_; first | trivial | (unfold I64; omega) | omega | (refine ⟨?_, ?_⟩ <;> omega) | (simp; done) | (simp; omega) | (intros; omega)))) | rotate_left)); (refine leK_nil ?_; exact (by rw [hsr, gmRow_app]; simp only [gmStep, h1, List.map_append]; rfl)); (all_goals (try (simp only [xr, simprocAttr]; try refine int_eq1 ?_))))
              · have hg : ¬ whereT (gmRow m s t i st w r (gmAll m s t i st w (gmT m s t y i).list r).1 (srv s u r)).1 (keyG t w r u) < 0 := fun h => absurd (posT_new.2 h) (of_decide_eq_false hg)
                have h1 : addT (gmRow m s t i st w r (gmAll m s t i st w (gmT m s t y i).list r).1 (srv s u r)).1 (keyG t w r u) = (gmRow m s t i st w r (gmAll m s t i st w (gmT m s t y i).list r).1 (srv s u r)).1 := if_neg hg
                (repeat (first | refine awp_seq ?_ | refine awp_block ?_ | ((first | refine awp_skip ?_ | refine awp_exit ?_); try simp only [xq, simprocAttr]) | (refine awp_ret ?_; try simp only [xq, simprocAttr]) | ((first | refine awp_reg ?_ | refine awp_anyR (by rfl) (by kernel_rfl) (by kernel_rfl) ?_); simp only [xr, simprocAttr]; repeat (guard_target =~ _ ∧ _; refine And.intro (by first | trivial | (unfold I64; omega) | omega | (refine ⟨?_, ?_⟩ <;> omega) | (simp; done) | (simp; omega) | (intros; omega)) ?_))))
                ((repeat (first | refine awp_seq ?_ | refine awp_block ?_ | ((first | refine awp_skip ?_ | refine awp_exit ?_); try simp only [xq, simprocAttr]))); refine awp_anyM [7] 30 [] (by kernel_rfl) (by kernel_rfl) (by kernel_rfl) (by kernel_rfl) (by kernel_rfl) ?_; simp (maxSteps := 3000000) only [xr, simprocAttr]; repeat (guard_target =~ _ ∧ _; refine And.intro (by first | trivial | (unfold I64; omega) | omega | (refine ⟨?_, ?_⟩ <;> omega) | (simp; done) | (simp; omega) | (intros; omega)) ?_))
                (repeat (first | refine awp_seq ?_ | refine awp_block ?_ | ((first | refine awp_skip ?_ | refine awp_exit ?_); try simp only [xq, simprocAttr])))
                (refine awp_mv 7 8 rfl rfl (by decide) rfl rfl ?_; simp only [xm, simprocAttr])
                (repeat (first | refine awp_seq ?_ | refine awp_block ?_ | ((first | refine awp_skip ?_ | refine awp_exit ?_); try simp only [xq, simprocAttr]) | (refine awp_ret ?_; try simp only [xq, simprocAttr]) | ((first | refine awp_reg ?_ | refine awp_anyR (by rfl) (by kernel_rfl) (by kernel_rfl) ?_); simp only [xr, simprocAttr]; repeat (guard_target =~ _ ∧ _; refine And.intro (by first | trivial | (unfold I64; omega) | omega | (refine ⟨?_, ?_⟩ <;> omega) | (simp; done) | (simp; omega) | (intros; omega)) ?_))))
                refine ⟨u + 1, by omega, by omega, .inr ⟨8, Nat.le_of_ble_eq_true rfl, leT_of ?_ rfl rfl rfl⟩⟩
                ((try simp only [xk]); (repeat (refine leK_cons ?_ ?_; first | (focus (first | rfl | (simp only [xr, simprocAttr]; done) | (simp only [xr, simprocAttr]; refine int_eq1 ?_; first | trivial | (unfold I64; omega) | omega | (refine ⟨?_, ?_⟩ <;> omega) | (simp; done) | (simp; omega) | (intros; omega)))) | rotate_left)); (refine leK_nil ?_; exact (by rw [hsr, gmRow_app]; simp only [gmStep, h1, List.map_append]; rfl)); (all_goals (try (simp only [xr, simprocAttr]; try refine int_eq1 ?_))))
          · have hf := of_decide_eq_false hf
            have hu' : u = m.length := by omega
            subst hu'
            (repeat (first | refine awp_seq ?_ | refine awp_block ?_ | ((first | refine awp_skip ?_ | refine awp_exit ?_); try simp only [xq, simprocAttr])))
            (refine awp_frz 7 rfl ?_; simp only [xz, simprocAttr])
            (repeat (first | refine awp_seq ?_ | refine awp_block ?_ | ((first | refine awp_skip ?_ | refine awp_exit ?_); try simp only [xq, simprocAttr]) | (refine awp_ret ?_; try simp only [xq, simprocAttr]) | ((first | refine awp_reg ?_ | refine awp_anyR (by rfl) (by kernel_rfl) (by kernel_rfl) ?_); simp only [xr, simprocAttr]; repeat (guard_target =~ _ ∧ _; refine And.intro (by first | trivial | (unfold I64; omega) | omega | (refine ⟨?_, ?_⟩ <;> omega) | (simp; done) | (simp; omega) | (intros; omega)) ?_))))
            refine ⟨r + 1, by omega, by omega, .inr ⟨7, Nat.le_of_ble_eq_true rfl, leT_of ?_ rfl rfl rfl⟩⟩
            ((try simp only [xk]); (repeat (refine leK_cons ?_ ?_; first | (focus (first | rfl | (simp only [xr, simprocAttr]; done) | (simp only [xr, simprocAttr]; refine int_eq1 ?_; first | trivial | (unfold I64; omega) | omega | (refine ⟨?_, ?_⟩ <;> omega) | (simp; done) | (simp; omega) | (intros; omega)))) | rotate_left)); (refine leK_nil ?_; exact (by simp only [gmAll, List.map_append]; rfl)); (all_goals (try (simp only [xr, simprocAttr]; try refine int_eq1 ?_))))
        · have hd := of_decide_eq_false hd
          have hr' : r = s.length := by omega
          subst hr'
          (repeat (first | refine awp_seq ?_ | refine awp_block ?_ | ((first | refine awp_skip ?_ | refine awp_exit ?_); try simp only [xq, simprocAttr])))
          (refine awp_frz 6 rfl ?_; simp only [xz, simprocAttr])
          (repeat (first | refine awp_seq ?_ | refine awp_block ?_ | ((first | refine awp_skip ?_ | refine awp_exit ?_); try simp only [xq, simprocAttr]) | (refine awp_ret ?_; try simp only [xq, simprocAttr]) | ((first | refine awp_reg ?_ | refine awp_anyR (by rfl) (by kernel_rfl) (by kernel_rfl) ?_); simp only [xr, simprocAttr]; repeat (guard_target =~ _ ∧ _; refine And.intro (by first | trivial | (unfold I64; omega) | omega | (refine ⟨?_, ?_⟩ <;> omega) | (simp; done) | (simp; omega) | (intros; omega)) ?_))))
          have hgl : (gmT m s t y (i + 1)).list = (gmAll m s t i st w (gmT m s t y i).list s.length).1 := by simp only [gmT, hst, hof]
          by_cases hbig : 60 < (gmT m s t y (i + 1)).list.length
          · have hdec : decide ((60 : Int) < (gmAll m s t i st w (gmT m s t y i).list s.length).1.length) = true := decide_eq_true (by rw [← hgl]; omega)
            rw [hdec]
            refine ⟨(i + 1, true), .inr ⟨rfl, by omega, hi.large hlt hbig⟩, by simp only; omega, .inr ⟨6, Nat.le_of_ble_eq_true rfl, leT_of ?_ rfl rfl rfl⟩⟩
            ((try simp only [xk]); (repeat (refine leK_cons ?_ ?_; first | (focus (first | rfl | (simp only [xr, simprocAttr]; done) | (simp only [xr, simprocAttr]; refine int_eq1 ?_; first | trivial | (unfold I64; omega) | omega | (refine ⟨?_, ?_⟩ <;> omega) | (simp; done) | (simp; omega) | (intros; omega)))) | rotate_left)); (refine leK_nil ?_; exact (by simp only [gmT, hst, hof, ch4, List.map_append]; rfl)); (all_goals (try (simp only [xr, simprocAttr]; try refine int_eq1 ?_))))
          · have hdec : decide ((60 : Int) < (gmAll m s t i st w (gmT m s t y i).list s.length).1.length) = false := decide_eq_false (by rw [← hgl]; omega)
            rw [hdec]
            refine ⟨(i + 1, false), .inl ⟨rfl, hi.next hlt hbig⟩, by simp only; omega, .inr ⟨6, Nat.le_of_ble_eq_true rfl, leT_of ?_ rfl rfl rfl⟩⟩
            ((try simp only [xk]); (repeat (refine leK_cons ?_ ?_; first | (focus (first | rfl | (simp only [xr, simprocAttr]; done) | (simp only [xr, simprocAttr]; refine int_eq1 ?_; first | trivial | (unfold I64; omega) | omega | (refine ⟨?_, ?_⟩ <;> omega) | (simp; done) | (simp; omega) | (intros; omega)))) | rotate_left)); (refine leK_nil ?_; exact (by simp only [gmT, hst, hof, ch4, List.map_append]; rfl)); (all_goals (try (simp only [xr, simprocAttr]; try refine int_eq1 ?_))))
      · have hnl : ¬ i < (gmT m s t y i).list.length := fun h => by
          rw [decide_eq_true (show (i : Int) < (gmT m s t y i).list.length by omega)] at he; cases he
        rw [hi.done hnl]
        (repeat (first | refine awp_seq ?_ | refine awp_block ?_ | ((first | refine awp_skip ?_ | refine awp_exit ?_); try simp only [xq, simprocAttr]) | ((first | refine awp_reg ?_ | refine awp_anyR (by rfl) (by kernel_rfl) (by kernel_rfl) ?_); simp only [xr, simprocAttr]; repeat (guard_target =~ _ ∧ _; refine And.intro (by first | trivial | (unfold I64; omega) | omega | (refine ⟨?_, ?_⟩ <;> omega) | (simp; done) | (simp; omega) | (intros; omega)) ?_))))
        (refine awp_frz 3 rfl ?_; simp only [xz, simprocAttr])
        (refine awp_frz 5 rfl ?_; simp only [xz, simprocAttr])
        (repeat (first | refine awp_seq ?_ | refine awp_block ?_ | ((first | refine awp_skip ?_ | refine awp_exit ?_); try simp only [xq, simprocAttr]) | (refine awp_ret ?_; try simp only [xq, simprocAttr]) | ((first | refine awp_reg ?_ | refine awp_anyR (by rfl) (by kernel_rfl) (by kernel_rfl) ?_); simp only [xr, simprocAttr]; repeat (guard_target =~ _ ∧ _; refine And.intro (by first | trivial | (unfold I64; omega) | omega | (refine ⟨?_, ?_⟩ <;> omega) | (simp; done) | (simp; omega) | (intros; omega)) ?_))))
        (simp only [xec, simprocAttr]; refine ⟨_, ⟨by simp only [xr, simprocAttr] <;> (and_intros <;> first | trivial | (unfold I64; omega) | omega | (refine ⟨?_, ?_⟩ <;> omega) | (simp; done) | (simp; omega) | (intros; omega)), rfl⟩, rfl, Imp.eq ?_⟩)
        rfl
    · simp only at hb hb1 hb2
      subst hb
      rw [hb2]
      simp only [xr, simprocAttr]
      (repeat (first | refine awp_seq ?_ | refine awp_block ?_ | ((first | refine awp_skip ?_ | refine awp_exit ?_); try simp only [xq, simprocAttr]) | (refine awp_ret ?_; try simp only [xq, simprocAttr]) | ((first | refine awp_reg ?_ | refine awp_anyR (by rfl) (by kernel_rfl) (by kernel_rfl) ?_); simp only [xr, simprocAttr]; repeat (guard_target =~ _ ∧ _; refine And.intro (by first | trivial | (unfold I64; omega) | omega | (refine ⟨?_, ?_⟩ <;> omega) | (simp; done) | (simp; omega) | (intros; omega)) ?_))))
      refine awp_cond (by first | rfl | (simp only [xr, simprocAttr]; rfl)) (fun he => ?_) (fun he => ?_)
      · exfalso
        revert he
        cases decide ((i : Int) < (gmT m s t y i).list.length) <;> decide
      · (repeat (first | refine awp_seq ?_ | refine awp_block ?_ | ((first | refine awp_skip ?_ | refine awp_exit ?_); try simp only [xq, simprocAttr]) | ((first | refine awp_reg ?_ | refine awp_anyR (by rfl) (by kernel_rfl) (by kernel_rfl) ?_); simp only [xr, simprocAttr]; repeat (guard_target =~ _ ∧ _; refine And.intro (by first | trivial | (unfold I64; omega) | omega | (refine ⟨?_, ?_⟩ <;> omega) | (simp; done) | (simp; omega) | (intros; omega)) ?_))))
        (refine awp_frz 3 rfl ?_; simp only [xz, simprocAttr])
        (refine awp_frz 5 rfl ?_; simp only [xz, simprocAttr])
        (repeat (first | refine awp_seq ?_ | refine awp_block ?_ | ((first | refine awp_skip ?_ | refine awp_exit ?_); try simp only [xq, simprocAttr]) | (refine awp_ret ?_; try simp only [xq, simprocAttr]) | ((first | refine awp_reg ?_ | refine awp_anyR (by rfl) (by kernel_rfl) (by kernel_rfl) ?_); simp only [xr, simprocAttr]; repeat (guard_target =~ _ ∧ _; refine And.intro (by first | trivial | (unfold I64; omega) | omega | (refine ⟨?_, ?_⟩ <;> omega) | (simp; done) | (simp; omega) | (intros; omega)) ?_))))
        (simp only [xec, simprocAttr]; refine ⟨_, ⟨by simp only [xr, simprocAttr] <;> (and_intros <;> first | trivial | (unfold I64; omega) | omega | (refine ⟨?_, ?_⟩ <;> omega) | (simp; done) | (simp; omega) | (intros; omega)), rfl⟩, rfl, Imp.eq ?_⟩)
        rfl
  · have hc := l8All_d m s y hp hy
    unfold offA at hc
    rw [ho] at hc
    have hg0 : gm m s y = (⟨[[(y : Int), 0]], []⟩, true) := by unfold gm; rw [ho]; rfl
    rw [hg0]
    generalize (offs m s y).1 = t at hc
    ((first | refine .inl ⟨_, hc, .inr (by and_intros <;> first | rfl | (simp; done)), ?_⟩ | refine ⟨_, hc, .inr (by and_intros <;> first | rfl | (simp; done)), ?_⟩); (try simp only [xr, simprocAttr]); repeat (guard_target =~ _ ∧ _; refine And.intro (by first | trivial | (unfold I64; omega) | omega | (refine ⟨?_, ?_⟩ <;> omega) | (simp; done) | (simp; omega) | (intros; omega)) ?_))
    ((repeat (first | refine awp_seq ?_ | refine awp_block ?_ | ((first | refine awp_skip ?_ | refine awp_exit ?_); try simp only [xq, simprocAttr]))); refine awp_regO [false, false, true] ?_; simp only [xr, simprocAttr]; repeat (guard_target =~ _ ∧ _; refine And.intro (by first | trivial | (unfold I64; omega) | omega | (refine ⟨?_, ?_⟩ <;> omega) | (simp; done) | (simp; omega) | (intros; omega)) ?_))
    (refine awp_nil 4 1 128 (.kii 4 []) rfl rfl rfl (by first | trivial | (intro _ h; cases h)) ?_; simp only [xr, simprocAttr])
    (repeat (first | refine awp_seq ?_ | refine awp_block ?_ | ((first | refine awp_skip ?_ | refine awp_exit ?_); try simp only [xq, simprocAttr]) | (refine awp_ret ?_; try simp only [xq, simprocAttr]) | ((first | refine awp_reg ?_ | refine awp_anyR (by rfl) (by kernel_rfl) (by kernel_rfl) ?_); simp only [xr, simprocAttr]; repeat (guard_target =~ _ ∧ _; refine And.intro (by first | trivial | (unfold I64; omega) | omega | (refine ⟨?_, ?_⟩ <;> omega) | (simp; done) | (simp; omega) | (intros; omega)) ?_))))
    refine awp_rounds (α := Nat) (fun _ => [(7, true, .int 0)]) [2, 4, 5, 6] (fun _ => [.box [.b (.sl (.ii m)), .b (.sl (.ii s))], .box [.b (.val (.slice none 0 0)), .b (.val (.slice none 0 0)), .b (.val (.bool false))], .box [.b (.sl (.ii t.list)), .b (.sl (.ii t.next)), .b (.sl (.ii t.grows)), .b (.val (.bool true))], .row 175 (.k 2 [[(y : Int), 0]]), .box [.own 3, .own 5, .b (.val (.bool true))], .row 128 (.kii 4 [])]) (fun _ => True) (fun i => i) 0 (by ((try simp only [xk]); (repeat (refine leK_cons ?_ ?_; first | (focus (first | rfl | (simp only [xr, simprocAttr]; done) | (simp only [xr, simprocAttr]; refine int_eq1 ?_; first | trivial | (unfold I64; omega) | omega | (refine ⟨?_, ?_⟩ <;> omega) | (simp; done) | (simp; omega) | (intros; omega)))) | rotate_left)); (try exact leK_nil rfl); (all_goals (try (simp only [xr, simprocAttr]; try refine int_eq1 ?_))))) trivial fun i _ => ?_
    simp only [xr, simprocAttr]
    (repeat (first | refine awp_seq ?_ | refine awp_block ?_ | ((first | refine awp_skip ?_ | refine awp_exit ?_); try simp only [xq, simprocAttr]) | (refine awp_ret ?_; try simp only [xq, simprocAttr]) | ((first | refine awp_reg ?_ | refine awp_anyR (by rfl) (by kernel_rfl) (by kernel_rfl) ?_); simp only [xr, simprocAttr]; repeat (guard_target =~ _ ∧ _; refine And.intro (by first | trivial | (unfold I64; omega) | omega | (refine ⟨?_, ?_⟩ <;> omega) | (simp; done) | (simp; omega) | (intros; omega)) ?_))))
    refine awp_cond (by first | rfl | (simp only [xr, simprocAttr]; rfl)) (fun he => ?_) (fun he => ?_)
    · cases he
    · (repeat (first | refine awp_seq ?_ | refine awp_block ?_ | ((first | refine awp_skip ?_ | refine awp_exit ?_); try simp only [xq, simprocAttr]) | ((first | refine awp_reg ?_ | refine awp_anyR (by rfl) (by kernel_rfl) (by kernel_rfl) ?_); simp only [xr, simprocAttr]; repeat (guard_target =~ _ ∧ _; refine And.intro (by first | trivial | (unfold I64; omega) | omega | (refine ⟨?_, ?_⟩ <;> omega) | (simp; done) | (simp; omega) | (intros; omega)) ?_))))
      (refine awp_frz 3 rfl ?_; simp only [xz, simprocAttr])
      (refine awp_frz 5 rfl ?_; simp only [xz, simprocAttr])
      (repeat (first | refine awp_seq ?_ | refine awp_block ?_ | ((first | refine awp_skip ?_ | refine awp_exit ?_); try simp only [xq, simprocAttr]) | (refine awp_ret ?_; try simp only [xq, simprocAttr]) | ((first | refine awp_reg ?_ | refine awp_anyR (by rfl) (by kernel_rfl) (by kernel_rfl) ?_); simp only [xr, simprocAttr]; repeat (guard_target =~ _ ∧ _; refine And.intro (by first | trivial | (unfold I64; omega) | omega | (refine ⟨?_, ?_⟩ <;> omega) | (simp; done) | (simp; omega) | (intros; omega)) ?_))))
      (simp only [xec, simprocAttr]; refine ⟨_, ⟨by simp only [xr, simprocAttr] <;> (and_intros <;> first | trivial | (unfold I64; omega) | omega | (refine ⟨?_, ?_⟩ <;> omega) | (simp; done) | (simp; omega) | (intros; omega)), rfl⟩, rfl, Imp.eq ?_⟩)
      rfl
end Go.Proofs.Ytlmhajdhpdpanaa
