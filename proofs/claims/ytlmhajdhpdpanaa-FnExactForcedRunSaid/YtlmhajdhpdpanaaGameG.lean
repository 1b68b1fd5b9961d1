/- Games on the machine: the reference's, with its guards. Conditions: none. -/
import Derived.Test.YtlmhajdhpdpanaaGameS
set_option linter.all false
set_option linter.unusedSimpArgs false
set_option linter.unusedVariables false
namespace Go.Proofs.Ytlmhajdhpdpanaa
open Go Go.RowKit Am

theorem gmQ_bad {m s : List (List Int)} {x : Int} (h : takesB m s x [] = false) : gmQ m s x = (⟨[], []⟩, true) := by unfold gmQ; rw [h]; rfl
theorem l10Get_d (m s : List (List Int)) (x : Int) : Does Try.prog 64 [prA m s, .int x] (.imm (.tup [bif takesB m s x [] then gmA (gmQ m s x) else .agg [.b (.val (.slice none 0 0)), .b (.val (.slice none 0 0)), .b (.val (.bool false))], .one (.b (.val (.bool (!(gmQ m s x).2))))])) := by
  refine spec_imm Try.func64 rfl Try.ntmps64 cfOK (fun _ _ => by kernel_rfl) rfl (Nat.le_of_ble_eq_true rfl) ?_
  intro M0 w0
  rw [Try.results64]
  (repeat (first | refine awp_seq ?_ | refine awp_block ?_ | ((first | refine awp_skip ?_ | refine awp_exit ?_); try simp only [xq, simprocAttr]) | (refine awp_ret ?_; try simp only [xq, simprocAttr]) | ((first | refine awp_reg ?_ | refine awp_anyR (by rfl) (by kernel_rfl) (by kernel_rfl) ?_); simp only [xr, simprocAttr]; repeat (guard_target =~ _ ∧ _; refine And.intro (by first | trivial | (unfold I64; omega) | omega | (refine ⟨?_, ?_⟩ <;> omega) | (simp; done) | (simp; omega) | (intros; omega)) ?_))))
  ((first | refine .inl ⟨_, (l8Takes_d m s x []), .inl rfl, ?_⟩ | refine ⟨_, (l8Takes_d m s x []), .inl rfl, ?_⟩); (try simp only [xr, simprocAttr]); repeat (guard_target =~ _ ∧ _; refine And.intro (by first | trivial | (unfold I64; omega) | omega | (refine ⟨?_, ?_⟩ <;> omega) | (simp; done) | (simp; omega) | (intros; omega)) ?_))
  (repeat (first | refine awp_seq ?_ | refine awp_block ?_ | ((first | refine awp_skip ?_ | refine awp_exit ?_); try simp only [xq, simprocAttr]) | (refine awp_ret ?_; try simp only [xq, simprocAttr]) | ((first | refine awp_reg ?_ | refine awp_anyR (by rfl) (by kernel_rfl) (by kernel_rfl) ?_); simp only [xr, simprocAttr]; repeat (guard_target =~ _ ∧ _; refine And.intro (by first | trivial | (unfold I64; omega) | omega | (refine ⟨?_, ?_⟩ <;> omega) | (simp; done) | (simp; omega) | (intros; omega)) ?_))))
  refine awp_cond (by first | rfl | (simp only [xr, simprocAttr]; rfl)) (fun hc => ?_) (fun hc => ?_)
  · have hc' : takesB m s x [] = false := by simpa using hc
    rw [gmQ_bad hc', hc']
    (repeat (first | refine awp_seq ?_ | refine awp_block ?_ | ((first | refine awp_skip ?_ | refine awp_exit ?_); try simp only [xq, simprocAttr]) | (refine awp_ret ?_; try simp only [xq, simprocAttr]) | ((first | refine awp_reg ?_ | refine awp_anyR (by rfl) (by kernel_rfl) (by kernel_rfl) ?_); simp only [xr, simprocAttr]; repeat (guard_target =~ _ ∧ _; refine And.intro (by first | trivial | (unfold I64; omega) | omega | (refine ⟨?_, ?_⟩ <;> omega) | (simp; done) | (simp; omega) | (intros; omega)) ?_))))
    (simp only [xec, simprocAttr]; refine ⟨[_, _], ⟨⟨by simp only [xr, simprocAttr] <;> (and_intros <;> first | trivial | (unfold I64; omega) | omega | (refine ⟨?_, ?_⟩ <;> omega) | (simp; done) | (simp; omega) | (intros; omega)), rfl⟩, rfl, trivial⟩, rfl, Imp.eq ?_⟩)
    rfl
  · have hc' : takesB m s x [] = true := by simpa using hc
    obtain ⟨hp, ⟨y, rfl, hy⟩, -, -⟩ := takes_ok hc'
    have hq : gmQ m s y = gm m s y := by unfold gmQ; rw [hc', Int.toNat_natCast]; rfl
    rw [hq, hc']
    have hg := l10Make_d m s y hp hy
    generalize gm m s y = q at hg
    change Does _ _ _ (.imm (.tv (.agg [.b (.sl (.k 2 q.1.list)), .b (.sl (.kii 4 (ch4 q.1.ch))), .b (.val (.bool q.2))]))) at hg
    (repeat (first | refine awp_seq ?_ | refine awp_block ?_ | ((first | refine awp_skip ?_ | refine awp_exit ?_); try simp only [xq, simprocAttr]) | (refine awp_ret ?_; try simp only [xq, simprocAttr]) | ((first | refine awp_reg ?_ | refine awp_anyR (by rfl) (by kernel_rfl) (by kernel_rfl) ?_); simp only [xr, simprocAttr]; repeat (guard_target =~ _ ∧ _; refine And.intro (by first | trivial | (unfold I64; omega) | omega | (refine ⟨?_, ?_⟩ <;> omega) | (simp; done) | (simp; omega) | (intros; omega)) ?_))))
    ((first | refine .inl ⟨_, hg, .inr (by and_intros <;> first | rfl | (simp; done)), ?_⟩ | refine ⟨_, hg, .inr (by and_intros <;> first | rfl | (simp; done)), ?_⟩); (try simp only [xr, simprocAttr]); repeat (guard_target =~ _ ∧ _; refine And.intro (by first | trivial | (unfold I64; omega) | omega | (refine ⟨?_, ?_⟩ <;> omega) | (simp; done) | (simp; omega) | (intros; omega)) ?_))
    (repeat (first | refine awp_seq ?_ | refine awp_block ?_ | ((first | refine awp_skip ?_ | refine awp_exit ?_); try simp only [xq, simprocAttr]) | (refine awp_ret ?_; try simp only [xq, simprocAttr]) | ((first | refine awp_reg ?_ | refine awp_anyR (by rfl) (by kernel_rfl) (by kernel_rfl) ?_); simp only [xr, simprocAttr]; repeat (guard_target =~ _ ∧ _; refine And.intro (by first | trivial | (unfold I64; omega) | omega | (refine ⟨?_, ?_⟩ <;> omega) | (simp; done) | (simp; omega) | (intros; omega)) ?_))))
    ((repeat (first | refine awp_seq ?_ | refine awp_block ?_ | ((first | refine awp_skip ?_ | refine awp_exit ?_); try simp only [xq, simprocAttr]))); refine awp_anyM [1] 4 [] (by kernel_rfl) (by kernel_rfl) (by kernel_rfl) (by kernel_rfl) (by kernel_rfl) ?_; simp (maxSteps := 3000000) only [xr, simprocAttr]; repeat (guard_target =~ _ ∧ _; refine And.intro (by first | trivial | (unfold I64; omega) | omega | (refine ⟨?_, ?_⟩ <;> omega) | (simp; done) | (simp; omega) | (intros; omega)) ?_))
    (repeat (first | refine awp_seq ?_ | refine awp_block ?_ | ((first | refine awp_skip ?_ | refine awp_exit ?_); try simp only [xq, simprocAttr]) | (refine awp_ret ?_; try simp only [xq, simprocAttr]) | ((first | refine awp_reg ?_ | refine awp_anyR (by rfl) (by kernel_rfl) (by kernel_rfl) ?_); simp only [xr, simprocAttr]; repeat (guard_target =~ _ ∧ _; refine And.intro (by first | trivial | (unfold I64; omega) | omega | (refine ⟨?_, ?_⟩ <;> omega) | (simp; done) | (simp; omega) | (intros; omega)) ?_))))
    (simp only [xec, simprocAttr]; refine ⟨[_, _], ⟨⟨by simp only [xr, simprocAttr] <;> (and_intros <;> first | trivial | (unfold I64; omega) | omega | (refine ⟨?_, ?_⟩ <;> omega) | (simp; done) | (simp; omega) | (intros; omega)), rfl⟩, rfl, trivial⟩, rfl, Imp.eq ?_⟩)
    rfl
theorem l10Get_b {m s : List (List Int)} {x : Int} (h : takesB m s x [] = false) : Does Try.prog 64 [prA m s, .int x] (.imm (.tup [.agg [.b (.val (.slice none 0 0)), .b (.val (.slice none 0 0)), .b (.val (.bool false))], .one (.b (.val (.bool false)))])) := by
  have := l10Get_d m s x
  rw [gmQ_bad h, h] at this
  exact this
theorem l10Get_g {m s : List (List Int)} {x : Int} (h : takesB m s x [] = true) : Does Try.prog 64 [prA m s, .int x] (.imm (.tup [.agg [.b (.sl (.k 2 (gmQ m s x).1.list)), .b (.sl (.kii 4 (ch4 (gmQ m s x).1.ch))), .b (.val (.bool (gmQ m s x).2))], .one (.b (.val (.bool (!(gmQ m s x).2))))])) := by
  have := l10Get_d m s x
  rw [h] at this
  exact this
end Go.Proofs.Ytlmhajdhpdpanaa
