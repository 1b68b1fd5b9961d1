/- All offsets on the machine: the program's. Conditions: problems that are right. -/
import Derived.Test.YtlmhajdhpdpanaaOffS
set_option linter.all false
set_option linter.unusedSimpArgs false
set_option linter.unusedVariables false
namespace Go.Proofs.Ytlmhajdhpdpanaa
open Go Go.RowKit Am

def lessTo (v : List Int) (a : Int) (j : Nat) : List Int := (List.range v.length).map fun (k : Nat) => if k < j then v.getD k 0 - a else v.getD k 0
theorem lessTo_len (v : List Int) (a : Int) (j : Nat) : (lessTo v a j).length = v.length := by simp [lessTo]
theorem lessTo_0 (v : List Int) (a : Int) : lessTo v a 0 = v := by
  refine List.ext_getElem (lessTo_len v a 0) fun j h1 h2 => ?_
  simp [lessTo, h2]
theorem lessTo_all (v : List Int) (a : Int) : lessTo v a v.length = lessM v a := by
  refine List.ext_getElem (by rw [lessTo_len, lessM_len]) fun j h1 h2 => ?_
  rw [lessM_len] at h2
  simp [lessTo, lessM, h2]
theorem lessTo_at {v : List Int} {a : Int} {j : Nat} (h : j < v.length) : (lessTo v a j).getD j 0 = v.getD j 0 := by
  unfold lessTo
  rw [rangeMap_getD _ _ h, if_neg (Nat.lt_irrefl _)]
theorem lessTo_set (v : List Int) (a : Int) (j : Nat) : (lessTo v a j).set j (v.getD j 0 - a) = lessTo v a (j + 1) := by
  unfold lessTo
  rw [rangeMap_set]
  refine rangeMap_congr fun k _ => ?_
  by_cases e : k = j
  · subst e
    rw [if_pos rfl, if_pos (by omega)]
  · rw [if_neg e]
    by_cases h : k < j
    · rw [if_pos h, if_pos (by omega)]
    · rw [if_neg h, if_neg (by omega)]
theorem offsets1_d (own w : List Int) : Does Try.prog 180 [.sl (.ints own), .lf (.ip [.sl (.ints w)] 0)] (.imm (.bool (decide (own = w)))) := by
  refine spec_imm Try.func180 rfl Try.ntmps180 cfOK (fun _ _ => by kernel_rfl) rfl (Nat.le_of_ble_eq_true rfl) ?_
  intro M0 w0
  rw [Try.results180]
  (repeat (first | refine awp_seq ?_ | refine awp_block ?_ | ((first | refine awp_skip ?_ | refine awp_exit ?_); try simp only [xq, simprocAttr]) | (refine awp_ret ?_; try simp only [xq, simprocAttr]) | ((first | refine awp_reg ?_ | refine awp_anyR (by rfl) (by kernel_rfl) (by kernel_rfl) ?_); simp only [xr, simprocAttr]; repeat (guard_target =~ _ ∧ _; refine And.intro (by first | trivial | (unfold I64; omega) | omega | (refine ⟨?_, ?_⟩ <;> omega) | (simp; done) | (simp; omega) | (intros; omega)) ?_))))
  ((first | refine .inl ⟨_, (sliceEqual_d _ _), .inl rfl, ?_⟩ | refine ⟨_, (sliceEqual_d _ _), .inl rfl, ?_⟩); (try simp only [xr, simprocAttr]); repeat (guard_target =~ _ ∧ _; refine And.intro (by first | trivial | (unfold I64; omega) | omega | (refine ⟨?_, ?_⟩ <;> omega) | (simp; done) | (simp; omega) | (intros; omega)) ?_))
  (repeat (first | refine awp_seq ?_ | refine awp_block ?_ | ((first | refine awp_skip ?_ | refine awp_exit ?_); try simp only [xq, simprocAttr]) | (refine awp_ret ?_; try simp only [xq, simprocAttr]) | ((first | refine awp_reg ?_ | refine awp_anyR (by rfl) (by kernel_rfl) (by kernel_rfl) ?_); simp only [xr, simprocAttr]; repeat (guard_target =~ _ ∧ _; refine And.intro (by first | trivial | (unfold I64; omega) | omega | (refine ⟨?_, ?_⟩ <;> omega) | (simp; done) | (simp; omega) | (intros; omega)) ?_))))
  (simp only [xe, simprocAttr]; refine ⟨_, rfl, rfl, Imp.eq ?_⟩)
  rfl
def offV (q : OffT × Bool) : AV := bif q.2 then .tup [.one (.b (.val (.slice none 0 0))), .one (.b (.val (.slice none 0 0))), .one (.b (.val (.slice none 0 0))), .one (.b (.val (.bool false)))] else .tup [.one (.b (.sl (.ii q.1.list))), .one (.b (.sl (.ii q.1.next))), .one (.b (.sl (.ii q.1.grows))), .one (.b (.val (.bool true)))]
set_option maxHeartbeats 2000000 in
theorem offsets_d (m s : List (List Int)) (x : Nat) (hp : probB m s = true) (hx : x < m.length) : Does Try.prog 126 [prA m s, .int x] (.imm (offV (offs m s x))) := by
  have hl := prob_len hp
  have hx1 := prob_m hp hx
  refine spec_imm Try.func126 rfl Try.ntmps126 cfOK (fun _ _ => by kernel_rfl) rfl (Nat.le_of_ble_eq_true rfl) ?_
  intro M0 w0
  rw [Try.results126]
  (repeat (first | refine awp_seq ?_ | refine awp_block ?_ | ((first | refine awp_skip ?_ | refine awp_exit ?_); try simp only [xq, simprocAttr])))
  ((repeat (first | refine awp_seq ?_ | refine awp_block ?_ | ((first | refine awp_skip ?_ | refine awp_exit ?_); try simp only [xq, simprocAttr]))); ((first | refine awp_reg ?_ | refine awp_anyR (by rfl) (by kernel_rfl) (by kernel_rfl) ?_); simp only [xr, simprocAttr]; repeat (guard_target =~ _ ∧ _; refine And.intro (by first | trivial | (unfold I64; omega) | omega | (refine ⟨?_, ?_⟩ <;> omega) | (simp; done) | (simp; omega) | (intros; omega)) ?_)); (repeat (first | refine awp_seq ?_ | refine awp_block ?_ | ((first | refine awp_skip ?_ | refine awp_exit ?_); try simp only [xq, simprocAttr]))))
  ((repeat (first | refine awp_seq ?_ | refine awp_block ?_ | ((first | refine awp_skip ?_ | refine awp_exit ?_); try simp only [xq, simprocAttr]))); refine awp_regO [false, false, false, false, false, false, true] ?_; simp only [xr, simprocAttr]; repeat (guard_target =~ _ ∧ _; refine And.intro (by first | trivial | (unfold I64; omega) | omega | (refine ⟨?_, ?_⟩ <;> omega) | (simp; done) | (simp; omega) | (intros; omega)) ?_))
  ((first | refine .inl ⟨_, (clone_d _ (by omega) (by omega)), .inr (by and_intros <;> first | rfl | (simp; done)), ?_⟩ | refine ⟨_, (clone_d _ (by omega) (by omega)), .inr (by and_intros <;> first | rfl | (simp; done)), ?_⟩); (try simp only [xr, simprocAttr]); repeat (guard_target =~ _ ∧ _; refine And.intro (by first | trivial | (unfold I64; omega) | omega | (refine ⟨?_, ?_⟩ <;> omega) | (simp; done) | (simp; omega) | (intros; omega)) ?_))
  (repeat (first | refine awp_seq ?_ | refine awp_block ?_ | ((first | refine awp_skip ?_ | refine awp_exit ?_); try simp only [xq, simprocAttr]) | (refine awp_ret ?_; try simp only [xq, simprocAttr]) | ((first | refine awp_reg ?_ | refine awp_anyR (by rfl) (by kernel_rfl) (by kernel_rfl) ?_); simp only [xr, simprocAttr]; repeat (guard_target =~ _ ∧ _; refine And.intro (by first | trivial | (unfold I64; omega) | omega | (refine ⟨?_, ?_⟩ <;> omega) | (simp; done) | (simp; omega) | (intros; omega)) ?_))))
  refine awp_rounds (α := Nat) (fun i => [(11, true, .int i)]) [2, 8, 9, 10] (fun i => [.box [.b (.sl (.ii m)), .b (.sl (.ii s))], .row 27 (.ii (offT m s x i).list), .row 27 (.ii (offT m s x i).next), .row 27 (.ii (offT m s x i).grows)]) (OffI m s x) (fun i => 401 - i) 0 (by ((try simp only [xk]); (repeat (refine leK_cons ?_ ?_; first | (focus (first | rfl | (simp only [xr, simprocAttr]; done) | (simp only [xr, simprocAttr]; refine int_eq1 ?_; first | trivial | (unfold I64; omega) | omega | (refine ⟨?_, ?_⟩ <;> omega) | (simp; done) | (simp; omega) | (intros; omega)))) | rotate_left)); (refine leK_nil ?_; exact (by rfl)); (all_goals (try (simp only [xr, simprocAttr]; try refine int_eq1 ?_))))) (OffI.first m s x) fun i hi => ?_
  have hile := hi.le
  have hlen := hi.len
  have hok := offT_ok hp hx i (by omega) hi.lt
  have hnl := hok.nlen
  have hgl := hok.glen
  simp only [xr, simprocAttr]
  (repeat (first | refine awp_seq ?_ | refine awp_block ?_ | ((first | refine awp_skip ?_ | refine awp_exit ?_); try simp only [xq, simprocAttr]) | (refine awp_ret ?_; try simp only [xq, simprocAttr]) | ((first | refine awp_reg ?_ | refine awp_anyR (by rfl) (by kernel_rfl) (by kernel_rfl) ?_); simp only [xr, simprocAttr]; repeat (guard_target =~ _ ∧ _; refine And.intro (by first | trivial | (unfold I64; omega) | omega | (refine ⟨?_, ?_⟩ <;> omega) | (simp; done) | (simp; omega) | (intros; omega)) ?_))))
  refine awp_cond (by first | rfl | (simp only [xr, simprocAttr]; rfl)) (fun hc => ?_) (fun hc => ?_)
  · have hc := of_decide_eq_true hc
    have hlt : i < (offT m s x i).list.length := by omega
    have hw := offT_at hok hlt
    (repeat (first | refine awp_seq ?_ | refine awp_block ?_ | ((first | refine awp_skip ?_ | refine awp_exit ?_); try simp only [xq, simprocAttr]) | (refine awp_ret ?_; try simp only [xq, simprocAttr]) | ((first | refine awp_reg ?_ | refine awp_anyR (by rfl) (by kernel_rfl) (by kernel_rfl) ?_); simp only [xr, simprocAttr]; repeat (guard_target =~ _ ∧ _; refine And.intro (by first | trivial | (unfold I64; omega) | omega | (refine ⟨?_, ?_⟩ <;> omega) | (simp; done) | (simp; omega) | (intros; omega)) ?_))))
    refine awp_rounds (α := Nat) (fun r => [(39, true, .int r)]) [2, 8, 9, 10, 11, 12, 13, 38] (fun r => [.box [.b (.sl (.ii m)), .b (.sl (.ii s))], .row 27 (.ii (offL m s ((offT m s x i).list.getD i []) (offT m s x i).list r)), .row 27 (.ii (offT m s x i).next), .row 27 (.ii (offT m s x i).grows), .row 3 (.ints (offN m s ((offT m s x i).list.getD i []) (offT m s x i).list r)), .row 3 (.ints (offGs m s ((offT m s x i).list.getD i []) r))]) (fun r => r ≤ s.length) (fun r => s.length - r) 0 (by ((try simp only [xk]); (repeat (refine leK_cons ?_ ?_; first | (focus (first | rfl | (simp only [xr, simprocAttr]; done) | (simp only [xr, simprocAttr]; refine int_eq1 ?_; first | trivial | (unfold I64; omega) | omega | (refine ⟨?_, ?_⟩ <;> omega) | (simp; done) | (simp; omega) | (intros; omega)))) | rotate_left)); (refine leK_nil ?_; exact (by rfl)); (all_goals (try (simp only [xr, simprocAttr]; try refine int_eq1 ?_))))) (Nat.zero_le _) fun r hr => ?_
    have hol := offL_len m s ((offT m s x i).list.getD i []) (offT m s x i).list r
    have hon := offN_len m s ((offT m s x i).list.getD i []) (offT m s x i).list r
    have hog := offGs_len m s ((offT m s x i).list.getD i []) r
    simp only [xr, simprocAttr]
    (repeat (first | refine awp_seq ?_ | refine awp_block ?_ | ((first | refine awp_skip ?_ | refine awp_exit ?_); try simp only [xq, simprocAttr]) | (refine awp_ret ?_; try simp only [xq, simprocAttr]) | ((first | refine awp_reg ?_ | refine awp_anyR (by rfl) (by kernel_rfl) (by kernel_rfl) ?_); simp only [xr, simprocAttr]; repeat (guard_target =~ _ ∧ _; refine And.intro (by first | trivial | (unfold I64; omega) | omega | (refine ⟨?_, ?_⟩ <;> omega) | (simp; done) | (simp; omega) | (intros; omega)) ?_))))
    refine awp_cond (by first | rfl | (simp only [xr, simprocAttr]; rfl)) (fun hd => ?_) (fun hd => ?_)
    · have hd := of_decide_eq_true hd
      have hr' : r < s.length := by omega
      have hgt := offL_get hlt (m := m) (s := s) (w := (offT m s x i).list.getD i []) r
      have hnx := nextM_ok hp hw (by omega) hr'
      have hnxl := hnx.len
      (repeat (first | refine awp_seq ?_ | refine awp_block ?_ | ((first | refine awp_skip ?_ | refine awp_exit ?_); try simp only [xq, simprocAttr]) | (refine awp_ret ?_; try simp only [xq, simprocAttr]) | ((first | refine awp_reg ?_ | refine awp_anyR (by rfl) (by kernel_rfl) (by kernel_rfl) ?_); simp only [xr, simprocAttr]; repeat (guard_target =~ _ ∧ _; refine And.intro (by first | trivial | (unfold I64; omega) | omega | (refine ⟨?_, ?_⟩ <;> omega) | (simp; done) | (simp; omega) | (intros; omega)) ?_))))
      ((repeat (first | refine awp_seq ?_ | refine awp_block ?_ | ((first | refine awp_skip ?_ | refine awp_exit ?_); try simp only [xq, simprocAttr]))); refine awp_anyF [true, true, true, true, true, true] (by kernel_rfl) (by kernel_rfl) rfl rfl ⟨rfl, rfl, rfl⟩ ⟨rfl, rfl, rfl⟩ ⟨rfl, rfl, rfl⟩ rfl ⟨rfl, rfl⟩ ⟨by simp only [xr, simprocAttr], by simp only [xr, simprocAttr]⟩ ⟨by kernel_rfl, by kernel_rfl⟩ ?_; simp (maxSteps := 3000000) only [xr, simprocAttr]; repeat (guard_target =~ _ ∧ _; refine And.intro (by first | trivial | (unfold I64; omega) | omega | (refine ⟨?_, ?_⟩ <;> omega) | (simp; done) | (simp; omega) | (intros; omega)) ?_))
      rw [hgt]
      (refine ⟨_, _, callF (nextWork_h m s ((offT m s x i).list.getD i []) _ r hp hw (by omega) hr') rfl rfl rfl rfl rfl, ?_⟩; (try simp only [xr, simprocAttr]); repeat (guard_target =~ _ ∧ _; refine And.intro (by first | trivial | (unfold I64; omega) | omega | (refine ⟨?_, ?_⟩ <;> omega) | (simp; done) | (simp; omega) | (intros; omega)) ?_))
      (repeat (first | refine awp_seq ?_ | refine awp_block ?_ | ((first | refine awp_skip ?_ | refine awp_exit ?_); try simp only [xq, simprocAttr]) | (refine awp_ret ?_; try simp only [xq, simprocAttr]) | ((first | refine awp_reg ?_ | refine awp_anyR (by rfl) (by kernel_rfl) (by kernel_rfl) ?_); simp only [xr, simprocAttr]; repeat (guard_target =~ _ ∧ _; refine And.intro (by first | trivial | (unfold I64; omega) | omega | (refine ⟨?_, ?_⟩ <;> omega) | (simp; done) | (simp; omega) | (intros; omega)) ?_))))
      ((first | refine .inl ⟨_, (sliceMin_d (nextM m s ((offT m s x i).list.getD i []) r) (by intro e; rw [e] at hnxl; simp at hnxl; omega)), .inl rfl, ?_⟩ | refine ⟨_, (sliceMin_d (nextM m s ((offT m s x i).list.getD i []) r) (by intro e; rw [e] at hnxl; simp at hnxl; omega)), .inl rfl, ?_⟩); (try simp only [xr, simprocAttr]); repeat (guard_target =~ _ ∧ _; refine And.intro (by first | trivial | (unfold I64; omega) | omega | (refine ⟨?_, ?_⟩ <;> omega) | (simp; done) | (simp; omega) | (intros; omega)) ?_))
      rw [hnxl]
      (repeat (first | refine awp_seq ?_ | refine awp_block ?_ | ((first | refine awp_skip ?_ | refine awp_exit ?_); try simp only [xq, simprocAttr]) | (refine awp_ret ?_; try simp only [xq, simprocAttr]) | ((first | refine awp_reg ?_ | refine awp_anyR (by rfl) (by kernel_rfl) (by kernel_rfl) ?_); simp only [xr, simprocAttr]; repeat (guard_target =~ _ ∧ _; refine And.intro (by first | trivial | (unfold I64; omega) | omega | (refine ⟨?_, ?_⟩ <;> omega) | (simp; done) | (simp; omega) | (intros; omega)) ?_))))
      have hgd : leastM (nextM m s ((offT m s x i).list.getD i []) r) (m.length - 1) = offG m s ((offT m s x i).list.getD i []) r := rfl
      rw [hgd]
      have hgb := offG_ok hp hw (by omega) hr' (by omega)
      refine awp_rounds (α := Nat) (fun j => [(53, true, .int j)]) [2, 8, 9, 10, 11, 12, 13, 14, 15, 16, 38, 39, 52] (fun j => [.box [.b (.sl (.ii m)), .b (.sl (.ii s))], .row 27 (.ii (offL m s ((offT m s x i).list.getD i []) (offT m s x i).list r)), .row 27 (.ii (offT m s x i).next), .row 27 (.ii (offT m s x i).grows), .row 3 (.ints (offN m s ((offT m s x i).list.getD i []) (offT m s x i).list r)), .row 3 (.ints (offGs m s ((offT m s x i).list.getD i []) r)), .box [.own 7], .row 3 (.ints (lessTo (nextM m s ((offT m s x i).list.getD i []) r) (offG m s ((offT m s x i).list.getD i []) r) j))]) (fun j => j ≤ m.length) (fun j => m.length - j) 0 (by ((try simp only [xk]); (repeat (refine leK_cons ?_ ?_; first | (focus (first | rfl | (simp only [xr, simprocAttr]; done) | (simp only [xr, simprocAttr]; refine int_eq1 ?_; first | trivial | (unfold I64; omega) | omega | (refine ⟨?_, ?_⟩ <;> omega) | (simp; done) | (simp; omega) | (intros; omega)))) | rotate_left)); (refine leK_nil ?_; exact (by rw [lessTo_0])); (all_goals (try (simp only [xr, simprocAttr]; try refine int_eq1 ?_))))) (Nat.zero_le _) fun j hj => ?_
      have hll := lessTo_len (nextM m s ((offT m s x i).list.getD i []) r) (offG m s ((offT m s x i).list.getD i []) r) j
      simp only [xr, simprocAttr]
      (repeat (first | refine awp_seq ?_ | refine awp_block ?_ | ((first | refine awp_skip ?_ | refine awp_exit ?_); try simp only [xq, simprocAttr]) | (refine awp_ret ?_; try simp only [xq, simprocAttr]) | ((first | refine awp_reg ?_ | refine awp_anyR (by rfl) (by kernel_rfl) (by kernel_rfl) ?_); simp only [xr, simprocAttr]; repeat (guard_target =~ _ ∧ _; refine And.intro (by first | trivial | (unfold I64; omega) | omega | (refine ⟨?_, ?_⟩ <;> omega) | (simp; done) | (simp; omega) | (intros; omega)) ?_))))
      refine awp_cond (by first | rfl | (simp only [xr, simprocAttr]; rfl)) (fun he => ?_) (fun he => ?_)
      · have he := of_decide_eq_true he
        have hj' : j < m.length := by omega
        have hat := lessTo_at (v := nextM m s ((offT m s x i).list.getD i []) r) (a := offG m s ((offT m s x i).list.getD i []) r) (j := j) (by omega)
        have hst := lessTo_set (nextM m s ((offT m s x i).list.getD i []) r) (offG m s ((offT m s x i).list.getD i []) r) j
        have hnb := hnx.at_ j hj'
        (repeat (first | refine awp_seq ?_ | refine awp_block ?_ | ((first | refine awp_skip ?_ | refine awp_exit ?_); try simp only [xq, simprocAttr]) | (refine awp_ret ?_; try simp only [xq, simprocAttr]) | ((first | refine awp_reg ?_ | refine awp_anyR (by rfl) (by kernel_rfl) (by kernel_rfl) ?_); simp only [xr, simprocAttr]; repeat (guard_target =~ _ ∧ _; refine And.intro (by first | trivial | (unfold I64; omega) | omega | (refine ⟨?_, ?_⟩ <;> omega) | (simp; done) | (simp; omega) | (intros; omega)) ?_))))
        rw [hat]
        (repeat (guard_target =~ _ ∧ _; refine And.intro (by first | trivial | (unfold I64; omega) | omega | (refine ⟨?_, ?_⟩ <;> omega) | (simp; done) | (simp; omega) | (intros; omega)) ?_))
        (repeat (first | refine awp_seq ?_ | refine awp_block ?_ | ((first | refine awp_skip ?_ | refine awp_exit ?_); try simp only [xq, simprocAttr]) | (refine awp_ret ?_; try simp only [xq, simprocAttr]) | ((first | refine awp_reg ?_ | refine awp_anyR (by rfl) (by kernel_rfl) (by kernel_rfl) ?_); simp only [xr, simprocAttr]; repeat (guard_target =~ _ ∧ _; refine And.intro (by first | trivial | (unfold I64; omega) | omega | (refine ⟨?_, ?_⟩ <;> omega) | (simp; done) | (simp; omega) | (intros; omega)) ?_))))
        refine ⟨j + 1, by omega, by omega, .inl ?_⟩
        ((try simp only [xk]); (repeat (refine leK_cons ?_ ?_; first | (focus (first | rfl | (simp only [xr, simprocAttr]; done) | (simp only [xr, simprocAttr]; refine int_eq1 ?_; first | trivial | (unfold I64; omega) | omega | (refine ⟨?_, ?_⟩ <;> omega) | (simp; done) | (simp; omega) | (intros; omega)))) | rotate_left)); (refine leK_nil ?_; exact (by rw [← hst])); (all_goals (try (simp only [xr, simprocAttr]; try refine int_eq1 ?_))))
      · have he := of_decide_eq_false he
        have hj' : j = m.length := by omega
        subst hj'
        (repeat (first | refine awp_seq ?_ | refine awp_block ?_ | ((first | refine awp_skip ?_ | refine awp_exit ?_); try simp only [xq, simprocAttr])))
        rw [show lessTo (nextM m s ((offT m s x i).list.getD i []) r) (offG m s ((offT m s x i).list.getD i []) r) m.length = offW m s ((offT m s x i).list.getD i []) r by rw [← hnxl]; exact lessTo_all _ _]
        (refine awp_frz 7 rfl ?_; simp only [xz, simprocAttr])
        (repeat (first | refine awp_seq ?_ | refine awp_block ?_ | ((first | refine awp_skip ?_ | refine awp_exit ?_); try simp only [xq, simprocAttr]) | (refine awp_ret ?_; try simp only [xq, simprocAttr]) | ((first | refine awp_reg ?_ | refine awp_anyR (by rfl) (by kernel_rfl) (by kernel_rfl) ?_); simp only [xr, simprocAttr]; repeat (guard_target =~ _ ∧ _; refine And.intro (by first | trivial | (unfold I64; omega) | omega | (refine ⟨?_, ?_⟩ <;> omega) | (simp; done) | (simp; omega) | (intros; omega)) ?_))))
        ((first | refine .inl ⟨_, (indexFuncII_d _ _ [.ip [.sl (.ints (offW m s ((offT m s x i).list.getD i []) r))] 0] (fun own => decide (own = offW m s ((offT m s x i).list.getD i []) r)) rfl fun k hk => offsets1_d _ _), .inl rfl, ?_⟩ | refine ⟨_, (indexFuncII_d _ _ [.ip [.sl (.ints (offW m s ((offT m s x i).list.getD i []) r))] 0] (fun own => decide (own = offW m s ((offT m s x i).list.getD i []) r)) rfl fun k hk => offsets1_d _ _), .inl rfl, ?_⟩); (try simp only [xr, simprocAttr]); repeat (guard_target =~ _ ∧ _; refine And.intro (by first | trivial | (unfold I64; omega) | omega | (refine ⟨?_, ?_⟩ <;> omega) | (simp; done) | (simp; omega) | (intros; omega)) ?_))
        (repeat (first | refine awp_seq ?_ | refine awp_block ?_ | ((first | refine awp_skip ?_ | refine awp_exit ?_); try simp only [xq, simprocAttr]) | (refine awp_ret ?_; try simp only [xq, simprocAttr]) | ((first | refine awp_reg ?_ | refine awp_anyR (by rfl) (by kernel_rfl) (by kernel_rfl) ?_); simp only [xr, simprocAttr]; repeat (guard_target =~ _ ∧ _; refine And.intro (by first | trivial | (unfold I64; omega) | omega | (refine ⟨?_, ?_⟩ <;> omega) | (simp; done) | (simp; omega) | (intros; omega)) ?_))))
        refine awp_cond (by first | rfl | (simp only [xr, simprocAttr]; rfl)) (fun hk => ?_) (fun hk => ?_)
        · have hk : whereT (offL m s ((offT m s x i).list.getD i []) (offT m s x i).list r) (offW m s ((offT m s x i).list.getD i []) r) < 0 := of_decide_eq_true hk
          (repeat (first | refine awp_seq ?_ | refine awp_block ?_ | ((first | refine awp_skip ?_ | refine awp_exit ?_); try simp only [xq, simprocAttr]) | (refine awp_ret ?_; try simp only [xq, simprocAttr]) | ((first | refine awp_reg ?_ | refine awp_anyR (by rfl) (by kernel_rfl) (by kernel_rfl) ?_); simp only [xr, simprocAttr]; repeat (guard_target =~ _ ∧ _; refine And.intro (by first | trivial | (unfold I64; omega) | omega | (refine ⟨?_, ?_⟩ <;> omega) | (simp; done) | (simp; omega) | (intros; omega)) ?_))))
          refine ⟨r + 1, by omega, by omega, .inr ⟨6, Nat.le_of_ble_eq_true rfl, leT_of ?_ rfl rfl rfl⟩⟩
          ((try simp only [xk]); (repeat (refine leK_cons ?_ ?_; first | (focus (first | rfl | (simp only [xr, simprocAttr]; done) | (simp only [xr, simprocAttr]; refine int_eq1 ?_; first | trivial | (unfold I64; omega) | omega | (refine ⟨?_, ?_⟩ <;> omega) | (simp; done) | (simp; omega) | (intros; omega)))) | rotate_left)); (refine leK_nil ?_; exact (by simp only [offL, addT, posT, offN_succ, offGs_succ, if_pos hk]; rfl)); (all_goals (try (simp only [xr, simprocAttr]; try refine int_eq1 ?_))))
        · have hk : ¬ whereT (offL m s ((offT m s x i).list.getD i []) (offT m s x i).list r) (offW m s ((offT m s x i).list.getD i []) r) < 0 := of_decide_eq_false hk
          (repeat (first | refine awp_seq ?_ | refine awp_block ?_ | ((first | refine awp_skip ?_ | refine awp_exit ?_); try simp only [xq, simprocAttr]) | (refine awp_ret ?_; try simp only [xq, simprocAttr]) | ((first | refine awp_reg ?_ | refine awp_anyR (by rfl) (by kernel_rfl) (by kernel_rfl) ?_); simp only [xr, simprocAttr]; repeat (guard_target =~ _ ∧ _; refine And.intro (by first | trivial | (unfold I64; omega) | omega | (refine ⟨?_, ?_⟩ <;> omega) | (simp; done) | (simp; omega) | (intros; omega)) ?_))))
          refine ⟨r + 1, by omega, by omega, .inr ⟨6, Nat.le_of_ble_eq_true rfl, leT_of ?_ rfl rfl rfl⟩⟩
          ((try simp only [xk]); (repeat (refine leK_cons ?_ ?_; first | (focus (first | rfl | (simp only [xr, simprocAttr]; done) | (simp only [xr, simprocAttr]; refine int_eq1 ?_; first | trivial | (unfold I64; omega) | omega | (refine ⟨?_, ?_⟩ <;> omega) | (simp; done) | (simp; omega) | (intros; omega)))) | rotate_left)); (refine leK_nil ?_; exact (by simp only [offL, addT, posT, offN_succ, offGs_succ, if_neg hk]; rfl)); (all_goals (try (simp only [xr, simprocAttr]; try refine int_eq1 ?_))))
    · have hd := of_decide_eq_false hd
      have hr' : r = s.length := by omega
      subst hr'
      (repeat (first | refine awp_seq ?_ | refine awp_block ?_ | ((first | refine awp_skip ?_ | refine awp_exit ?_); try simp only [xq, simprocAttr])))
      (refine awp_frz 4 rfl ?_; simp only [xz, simprocAttr])
      (refine awp_frz 5 rfl ?_; simp only [xz, simprocAttr])
      (repeat (first | refine awp_seq ?_ | refine awp_block ?_ | ((first | refine awp_skip ?_ | refine awp_exit ?_); try simp only [xq, simprocAttr]) | (refine awp_ret ?_; try simp only [xq, simprocAttr]) | ((first | refine awp_reg ?_ | refine awp_anyR (by rfl) (by kernel_rfl) (by kernel_rfl) ?_); simp only [xr, simprocAttr]; repeat (guard_target =~ _ ∧ _; refine And.intro (by first | trivial | (unfold I64; omega) | omega | (refine ⟨?_, ?_⟩ <;> omega) | (simp; done) | (simp; omega) | (intros; omega)) ?_))))
      refine awp_cond (by first | rfl | (simp only [xr, simprocAttr]; rfl)) (fun hg => ?_) (fun hg => ?_)
      · have hg := of_decide_eq_true hg
        have hbig : 400 < (offT m s x (i + 1)).list.length := by show 400 < (offL m s _ _ s.length).length; omega
        (repeat (first | refine awp_seq ?_ | refine awp_block ?_ | ((first | refine awp_skip ?_ | refine awp_exit ?_); try simp only [xq, simprocAttr]) | (refine awp_ret ?_; try simp only [xq, simprocAttr]) | ((first | refine awp_reg ?_ | refine awp_anyR (by rfl) (by kernel_rfl) (by kernel_rfl) ?_); simp only [xr, simprocAttr]; repeat (guard_target =~ _ ∧ _; refine And.intro (by first | trivial | (unfold I64; omega) | omega | (refine ⟨?_, ?_⟩ <;> omega) | (simp; done) | (simp; omega) | (intros; omega)) ?_))))
        (simp only [xe, simprocAttr]; refine ⟨[_, _, _, _], ⟨rfl, rfl, rfl, rfl, trivial⟩, rfl, Imp.eq ?_⟩)
        rw [hi.large hlt hbig]
        rfl
      · have hg := of_decide_eq_false hg
        have hbig : ¬ 400 < (offT m s x (i + 1)).list.length := by show ¬ 400 < (offL m s _ _ s.length).length; omega
        (repeat (first | refine awp_seq ?_ | refine awp_block ?_ | ((first | refine awp_skip ?_ | refine awp_exit ?_); try simp only [xq, simprocAttr]) | (refine awp_ret ?_; try simp only [xq, simprocAttr]) | ((first | refine awp_reg ?_ | refine awp_anyR (by rfl) (by kernel_rfl) (by kernel_rfl) ?_); simp only [xr, simprocAttr]; repeat (guard_target =~ _ ∧ _; refine And.intro (by first | trivial | (unfold I64; omega) | omega | (refine ⟨?_, ?_⟩ <;> omega) | (simp; done) | (simp; omega) | (intros; omega)) ?_))))
        refine ⟨i + 1, hi.next hlt hbig, by omega, .inr ⟨4, Nat.le_of_ble_eq_true rfl, leT_of ?_ rfl rfl rfl⟩⟩
        ((try simp only [xk]); (repeat (refine leK_cons ?_ ?_; first | (focus (first | rfl | (simp only [xr, simprocAttr]; done) | (simp only [xr, simprocAttr]; refine int_eq1 ?_; first | trivial | (unfold I64; omega) | omega | (refine ⟨?_, ?_⟩ <;> omega) | (simp; done) | (simp; omega) | (intros; omega)))) | rotate_left)); (refine leK_nil ?_; exact (by rfl)); (all_goals (try (simp only [xr, simprocAttr]; try refine int_eq1 ?_))))
  · have hc := of_decide_eq_false hc
    (repeat (first | refine awp_seq ?_ | refine awp_block ?_ | ((first | refine awp_skip ?_ | refine awp_exit ?_); try simp only [xq, simprocAttr]) | ((first | refine awp_reg ?_ | refine awp_anyR (by rfl) (by kernel_rfl) (by kernel_rfl) ?_); simp only [xr, simprocAttr]; repeat (guard_target =~ _ ∧ _; refine And.intro (by first | trivial | (unfold I64; omega) | omega | (refine ⟨?_, ?_⟩ <;> omega) | (simp; done) | (simp; omega) | (intros; omega)) ?_))))
    (refine awp_frz 1 rfl ?_; simp only [xz, simprocAttr])
    (refine awp_frz 2 rfl ?_; simp only [xz, simprocAttr])
    (refine awp_frz 3 rfl ?_; simp only [xz, simprocAttr])
    (repeat (first | refine awp_seq ?_ | refine awp_block ?_ | ((first | refine awp_skip ?_ | refine awp_exit ?_); try simp only [xq, simprocAttr]) | (refine awp_ret ?_; try simp only [xq, simprocAttr]) | ((first | refine awp_reg ?_ | refine awp_anyR (by rfl) (by kernel_rfl) (by kernel_rfl) ?_); simp only [xr, simprocAttr]; repeat (guard_target =~ _ ∧ _; refine And.intro (by first | trivial | (unfold I64; omega) | omega | (refine ⟨?_, ?_⟩ <;> omega) | (simp; done) | (simp; omega) | (intros; omega)) ?_))))
    (simp only [xe, simprocAttr]; refine ⟨[_, _, _, _], ⟨rfl, rfl, rfl, rfl, trivial⟩, rfl, Imp.eq ?_⟩)
    rw [hi.done (by omega)]
    rfl
end Go.Proofs.Ytlmhajdhpdpanaa
