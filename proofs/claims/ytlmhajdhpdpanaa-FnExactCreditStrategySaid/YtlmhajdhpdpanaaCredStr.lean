/- Strategies that credits allow, on the machine. Conditions: those that each names. -/
import Derived.Test.YtlmhajdhpdpanaaCredit
import Derived.Test.YtlmhajdhpdpanaaMarkSz
set_option linter.all false
set_option linter.unusedSimpArgs false
set_option linter.unusedVariables false
namespace Go.Proofs.Ytlmhajdhpdpanaa
open Go Go.RowKit Am

abbrev treeII (xs : List (List Int)) : Ob := .tree [27, 3] (.ii xs)
def csRow (a : Int × Int) (tab : List Int) (i : Nat) (rows : List (List (List Int))) : List Int := rows.map (allowAt a tab i)
def csM (g : GmT) (a : Int × Int) (tab : List Int) : List (List Int) := (List.range g.ch.length).map fun i => csRow a tab i (g.ch.getD i [])
theorem csM_take {g : GmT} {a : Int × Int} {tab : List Int} {i : Nat} (h : i < g.ch.length) : (csM g a tab).take (i + 1) = (csM g a tab).take i ++ [csRow a tab i (g.ch.getD i [])] := by
  have hl : i < (csM g a tab).length := by simp [csM]; omega
  rw [take_getD hl [], getD_in hl]
  simp [csM]
theorem csRow_take {a : Int × Int} {tab : List Int} {i r : Nat} {rows : List (List (List Int))} (h : r < rows.length) : csRow a tab i (rows.take (r + 1)) = csRow a tab i (rows.take r) ++ [allowAt a tab i (rows.getD r [])] := by
  unfold csRow
  rw [take_getD h [], List.map_append]
  rfl
theorem csM_len {m s : List (List Int)} {g : GmT} (hg : GmFull m s g) (a : Int × Int) (tab : List Int) : (csM g a tab).length ≤ 60 ∧ ∀ r ∈ csM g a tab, r.length ≤ 4 := by
  have h1 := hg.le
  have h2 := hg.clen
  refine ⟨by simp [csM]; omega, fun r hr => ?_⟩
  simp only [csM, List.mem_map, List.mem_range] at hr
  obtain ⟨i, hi, rfl⟩ := hr
  have h3 := hg.c.len i hi
  have h4 := prob_len hg.prob
  simp only [csRow, List.length_map]
  omega
theorem csM_sm {m s : List (List Int)} {g : GmT} (hg : GmFull m s g) (a : Int × Int) (tab : List Int) : smII (csM g a tab) :=
  ⟨by have := (csM_len hg a tab).1; omega, fun r hr => by have := (csM_len hg a tab).2 r hr; omega⟩
theorem csM_n {m s : List (List Int)} {g : GmT} (hg : GmFull m s g) (a : Int × Int) (tab : List Int) : nII (csM g a tab) ≤ 240 := by
  have h1 := csM_len hg a tab
  have h2 := szL_bd (N := List.length) h1.2
  have h3 : (csM g a tab).length * 4 ≤ 240 := by omega
  exact Nat.le_trans h2 h3
def csV (m s : List (List Int)) (x : Int) (a : Int × Int) (tab : List Int) : List (List Int) := csM (gmQ m s x).1 a tab
theorem crdB_ok {m s : List (List Int)} {x : Int} {a : Int × Int} {tab : List Int} (h : crdB m s x a tab = true) : (gmQ m s x).2 = false ∧ ratioB a = true ∧ creditB (gmQ m s x).1 a.1 a.2 tab = true := by
  unfold crdB at h
  rw [Bool.and_eq_true] at h
  obtain ⟨h1, h2⟩ := h
  obtain ⟨h3, h4⟩ := okB_ok h1
  exact ⟨h3, h4, h2⟩
theorem csV_sm {m s : List (List Int)} {x : Int} {a : Int × Int} {tab : List Int} (h : crdB m s x a tab = true) : smII (csV m s x a tab) := csM_sm (gmQ_full (crdB_ok h).1) a tab
theorem csV_n {m s : List (List Int)} {x : Int} {a : Int × Int} {tab : List Int} (h : crdB m s x a tab = true) : nII (csV m s x a tab) ≤ 240 := csM_n (gmQ_full (crdB_ok h).1) a tab
theorem credStr1_d {a : Int × Int} {tab : List Int} {i : Nat} {c : List Int} (h : AllowK a tab i c) : Does Try.prog 83 [six c, .lf (.ip [.val (.int .i64 a.1), .val (.int .i64 a.2)] 0), .lf (.ip [.sl (.ints tab)] 0)] (.imm (.bool (allowC a.1 a.2 tab i c))) := by
  refine spec_imm Try.func83 rfl Try.ntmps83 cfOK (fun _ _ => by kernel_rfl) rfl (Nat.le_of_ble_eq_true rfl) ?_
  intro M0 w0
  rw [Try.results83]
  (repeat (first | refine awp_seq ?_ | refine awp_block ?_ | ((first | refine awp_skip ?_ | refine awp_exit ?_); try simp only [xq, simprocAttr]) | (refine awp_ret ?_; try simp only [xq, simprocAttr]) | ((first | refine awp_reg ?_ | refine awp_anyR (by rfl) (by kernel_rfl) (by kernel_rfl) ?_); simp only [xr, simprocAttr]; repeat (guard_target =~ _ ∧ _; refine And.intro (by first | trivial | (unfold I64; omega) | omega | (refine ⟨?_, ?_⟩ <;> omega) | (simp; done) | (simp; omega) | (intros; omega)) ?_))))
  ((first | refine .inl ⟨_, (allows_d h), .inl rfl, ?_⟩ | refine ⟨_, (allows_d h), .inl rfl, ?_⟩); (try simp only [xr, simprocAttr]); repeat (guard_target =~ _ ∧ _; refine And.intro (by first | trivial | (unfold I64; omega) | omega | (refine ⟨?_, ?_⟩ <;> omega) | (simp; done) | (simp; omega) | (intros; omega)) ?_))
  (repeat (first | refine awp_seq ?_ | refine awp_block ?_ | ((first | refine awp_skip ?_ | refine awp_exit ?_); try simp only [xq, simprocAttr]) | (refine awp_ret ?_; try simp only [xq, simprocAttr]) | ((first | refine awp_reg ?_ | refine awp_anyR (by rfl) (by kernel_rfl) (by kernel_rfl) ?_); simp only [xr, simprocAttr]; repeat (guard_target =~ _ ∧ _; refine And.intro (by first | trivial | (unfold I64; omega) | omega | (refine ⟨?_, ?_⟩ <;> omega) | (simp; done) | (simp; omega) | (intros; omega)) ?_))))
  (simp only [xe, simprocAttr]; refine ⟨_, rfl, rfl, Imp.eq ?_⟩)
  rfl
/-- the place of the first choice that a table allows -/
theorem allow_at {a : Int × Int} {tab : List Int} {i : Nat} {row : List (List Int)} (h : row.any (allowC a.1 a.2 tab i) = true) : ∃ k : Nat, idxOf (allowC a.1 a.2 tab i) row = k ∧ k < row.length ∧ allowAt a tab i row = (row.getD k []).getD 5 0 := by
  rw [← idxOf_any, decide_eq_true_eq] at h
  obtain ⟨k, hk, e, -⟩ := idxOf_lt h
  refine ⟨k, e, hk, ?_⟩
  have e : idxOf (allowC a.1 a.2 tab i) row = k := e
  unfold allowAt
  rw [e, if_neg (by omega), Int.toNat_natCast]
theorem cs_no {m s : List (List Int)} {x : Int} {a : Int × Int} {tab : List Int} (h : crdB m s x a tab = false) (h1 : (gmQ m s x).2 = false) : (bif !ratioB a then true else !creditB (gmQ m s x).1 a.1 a.2 tab) = true := by
  unfold crdB okB at h
  rw [h1] at h
  revert h
  cases ratioB a <;> cases creditB (gmQ m s x).1 a.1 a.2 tab <;> decide
set_option maxHeartbeats 2000000 in
theorem impl_CreditStrategy_h (m s : List (List Int)) (x : Int) (a : Int × Int) (tab : List Int) (hb : crdB m s x a tab = true) : DoesH Try.prog 36 [prA m s, .int x, frA a, .sl (.ints tab)] [] [] (.tup [.one (.own 0), bT true]) [treeII (csV m s x a tab)] := by
  obtain ⟨h1, h2, h3⟩ := crdB_ok hb
  have hg := gmQ_full h1
  refine spec_hB Try.func36 rfl Try.ntmps36 cfOK (fun _ _ => by kernel_rfl) rfl rfl rfl ?_
  intro M0 w0 S φ0
  rw [Try.results36]
  (repeat (first | refine awp_seq ?_ | refine awp_block ?_ | ((first | refine awp_skip ?_ | refine awp_exit ?_); try simp only [xq, simprocAttr]) | (refine awp_ret ?_; try simp only [xq, simprocAttr]) | ((first | refine awp_reg ?_ | refine awp_anyR (by rfl) (by kernel_rfl) (by kernel_rfl) ?_); simp only [xr, simprocAttr]; repeat (guard_target =~ _ ∧ _; refine And.intro (by first | trivial | (unfold I64; omega) | omega | (refine ⟨?_, ?_⟩ <;> omega) | (simp; done) | (simp; omega) | (intros; omega)) ?_))))
  (refine .inr (callW_a [] (gameOf_g h1) rfl rfl rfl rfl trivial rfl rfl rfl rfl ?_); (try simp only [xr, simprocAttr]); repeat (guard_target =~ _ ∧ _; refine And.intro (by first | trivial | (unfold I64; omega) | omega | (refine ⟨?_, ?_⟩ <;> omega) | (simp; done) | (simp; omega) | (intros; omega)) ?_))
  rw [show csV m s x a tab = csM (gmQ m s x).1 a tab from rfl]
  generalize (gmQ m s x).1 = g at hg h3
  have hle := hg.le
  have hcl := hg.clen
  obtain ⟨ht, hal⟩ := creditB_iff.1 h3
  have ht : tbB g.list.length tab = true := ht
  (repeat (first | refine awp_seq ?_ | refine awp_block ?_ | ((first | refine awp_skip ?_ | refine awp_exit ?_); try simp only [xq, simprocAttr]) | (refine awp_ret ?_; try simp only [xq, simprocAttr]) | ((first | refine awp_reg ?_ | refine awp_anyR (by rfl) (by kernel_rfl) (by kernel_rfl) ?_); simp only [xr, simprocAttr]; repeat (guard_target =~ _ ∧ _; refine And.intro (by first | trivial | (unfold I64; omega) | omega | (refine ⟨?_, ?_⟩ <;> omega) | (simp; done) | (simp; omega) | (intros; omega)) ?_))))
  ((first | refine .inl ⟨_, (isRatio_d a), .inl rfl, ?_⟩ | refine ⟨_, (isRatio_d a), .inl rfl, ?_⟩); (try simp only [xr, simprocAttr]); repeat (guard_target =~ _ ∧ _; refine And.intro (by first | trivial | (unfold I64; omega) | omega | (refine ⟨?_, ?_⟩ <;> omega) | (simp; done) | (simp; omega) | (intros; omega)) ?_))
  rw [h2]
  (repeat (first | refine awp_seq ?_ | refine awp_block ?_ | ((first | refine awp_skip ?_ | refine awp_exit ?_); try simp only [xq, simprocAttr]) | (refine awp_ret ?_; try simp only [xq, simprocAttr]) | ((first | refine awp_reg ?_ | refine awp_anyR (by rfl) (by kernel_rfl) (by kernel_rfl) ?_); simp only [xr, simprocAttr]; repeat (guard_target =~ _ ∧ _; refine And.intro (by first | trivial | (unfold I64; omega) | omega | (refine ⟨?_, ?_⟩ <;> omega) | (simp; done) | (simp; omega) | (intros; omega)) ?_))))
  ((first | refine .inl ⟨_, (fun _ => isCredit_d hg h2 tab), .inl rfl, ?_⟩ | refine ⟨_, (fun _ => isCredit_d hg h2 tab), .inl rfl, ?_⟩); (try simp only [xr, simprocAttr]); repeat (guard_target =~ _ ∧ _; refine And.intro (by first | trivial | (unfold I64; omega) | omega | (refine ⟨?_, ?_⟩ <;> omega) | (simp; done) | (simp; omega) | (intros; omega)) ?_))
  rw [h3]
  (repeat (first | refine awp_seq ?_ | refine awp_block ?_ | ((first | refine awp_skip ?_ | refine awp_exit ?_); try simp only [xq, simprocAttr]) | (refine awp_ret ?_; try simp only [xq, simprocAttr]) | ((first | refine awp_reg ?_ | refine awp_anyR (by rfl) (by kernel_rfl) (by kernel_rfl) ?_); simp only [xr, simprocAttr]; repeat (guard_target =~ _ ∧ _; refine And.intro (by first | trivial | (unfold I64; omega) | omega | (refine ⟨?_, ?_⟩ <;> omega) | (simp; done) | (simp; omega) | (intros; omega)) ?_))))
  refine awp_cond (by first | rfl | (simp only [xr, simprocAttr]; rfl)) (fun hc => ?_) (fun hc => ?_)
  · cases hc
  (repeat (first | refine awp_seq ?_ | refine awp_block ?_ | ((first | refine awp_skip ?_ | refine awp_exit ?_); try simp only [xq, simprocAttr]) | (refine awp_ret ?_; try simp only [xq, simprocAttr]) | ((first | refine awp_reg ?_ | refine awp_anyR (by rfl) (by kernel_rfl) (by kernel_rfl) ?_); simp only [xr, simprocAttr]; repeat (guard_target =~ _ ∧ _; refine And.intro (by first | trivial | (unfold I64; omega) | omega | (refine ⟨?_, ?_⟩ <;> omega) | (simp; done) | (simp; omega) | (intros; omega)) ?_))))
  (refine awp_toT 6 3 [] rfl rfl rfl ?_; simp only [xu, simprocAttr])
  refine awp_rounds (α := Nat) (fun i => [(45, true, .int i)]) [6, 7, 12, 43, 44] (fun i => [.box [.b (.sl (.ii m)), .b (.sl (.ii s))], .box [.b (.val (.int .i64 a.1)), .b (.val (.int .i64 a.2))], .box [.b (.sl (.ints tab))], .box [.own 4, .own 5], .row 175 (.k 2 g.list), .row 103 (.kii 6 g.ch), treeII ((csM g a tab).take i)]) (fun i => i ≤ g.ch.length) (fun i => g.ch.length - i) 0 (by ((try simp only [xk]); (repeat (refine leK_cons ?_ ?_; first | (focus (first | rfl | (simp only [xr, simprocAttr]; done) | (simp only [xr, simprocAttr]; refine int_eq1 ?_; first | trivial | (unfold I64; omega) | omega | (refine ⟨?_, ?_⟩ <;> omega) | (simp; done) | (simp; omega) | (intros; omega)))) | rotate_left)); (refine leK_nil ?_; exact (by simp)); (all_goals (try (simp only [xr, simprocAttr]; try refine int_eq1 ?_))))) (Nat.zero_le _) fun i hi => ?_
  have hpl : ((csM g a tab).take i).length = i := by simp [csM]; omega
  simp only [xr, simprocAttr]
  (repeat (first | refine awp_seq ?_ | refine awp_block ?_ | ((first | refine awp_skip ?_ | refine awp_exit ?_); try simp only [xq, simprocAttr]) | (refine awp_ret ?_; try simp only [xq, simprocAttr]) | ((first | refine awp_reg ?_ | refine awp_anyR (by rfl) (by kernel_rfl) (by kernel_rfl) ?_); simp only [xr, simprocAttr]; repeat (guard_target =~ _ ∧ _; refine And.intro (by first | trivial | (unfold I64; omega) | omega | (refine ⟨?_, ?_⟩ <;> omega) | (simp; done) | (simp; omega) | (intros; omega)) ?_))))
  refine awp_cond (by first | rfl | (simp only [xr, simprocAttr]; rfl)) (fun hd => ?_) (fun hd => ?_)
  · have hd := of_decide_eq_true hd
    have hi' : i < g.ch.length := by omega
    have hrl := hg.c.len i hi'
    have hpl4 := prob_len hg.prob
    (repeat (first | refine awp_seq ?_ | refine awp_block ?_ | ((first | refine awp_skip ?_ | refine awp_exit ?_); try simp only [xq, simprocAttr]) | (refine awp_ret ?_; try simp only [xq, simprocAttr]) | ((first | refine awp_reg ?_ | refine awp_anyR (by rfl) (by kernel_rfl) (by kernel_rfl) ?_); simp only [xr, simprocAttr]; repeat (guard_target =~ _ ∧ _; refine And.intro (by first | trivial | (unfold I64; omega) | omega | (refine ⟨?_, ?_⟩ <;> omega) | (simp; done) | (simp; omega) | (intros; omega)) ?_))))
    refine awp_rounds (α := Nat) (fun r => [(52, true, .int r)]) [6, 7, 12, 14, 15, 43, 44, 45, 50, 51] (fun r => [.box [.b (.sl (.ii m)), .b (.sl (.ii s))], .box [.b (.val (.int .i64 a.1)), .b (.val (.int .i64 a.2))], .box [.b (.sl (.ints tab))], .box [.own 4, .own 5], .row 175 (.k 2 g.list), .row 103 (.kii 6 g.ch), treeII ((csM g a tab).take i), .row 3 (.ints (csRow a tab i ((g.ch.getD i []).take r)))]) (fun r => r ≤ (g.ch.getD i []).length) (fun r => (g.ch.getD i []).length - r) 0 (by ((try simp only [xk]); (repeat (refine leK_cons ?_ ?_; first | (focus (first | rfl | (simp only [xr, simprocAttr]; done) | (simp only [xr, simprocAttr]; refine int_eq1 ?_; first | trivial | (unfold I64; omega) | omega | (refine ⟨?_, ?_⟩ <;> omega) | (simp; done) | (simp; omega) | (intros; omega)))) | rotate_left)); (refine leK_nil ?_; exact (by simp [csRow])); (all_goals (try (simp only [xr, simprocAttr]; try refine int_eq1 ?_))))) (Nat.zero_le _) fun r hr => ?_
    have hrl2 : (csRow a tab i ((g.ch.getD i []).take r)).length = r := by rw [csRow, List.length_map, List.length_take]; omega
    simp only [xr, simprocAttr]
    (repeat (first | refine awp_seq ?_ | refine awp_block ?_ | ((first | refine awp_skip ?_ | refine awp_exit ?_); try simp only [xq, simprocAttr]) | (refine awp_ret ?_; try simp only [xq, simprocAttr]) | ((first | refine awp_reg ?_ | refine awp_anyR (by rfl) (by kernel_rfl) (by kernel_rfl) ?_); simp only [xr, simprocAttr]; repeat (guard_target =~ _ ∧ _; refine And.intro (by first | trivial | (unfold I64; omega) | omega | (refine ⟨?_, ?_⟩ <;> omega) | (simp; done) | (simp; omega) | (intros; omega)) ?_))))
    refine awp_cond (by first | rfl | (simp only [xr, simprocAttr]; rfl)) (fun he => ?_) (fun he => ?_)
    · have he := of_decide_eq_true he
      have hr' : r < (g.ch.getD i []).length := by omega
      obtain ⟨hok, hil, hrs⟩ := row_at hg hi' hr'
      obtain ⟨k, hk1, hk2, hk3⟩ := allow_at (hal i hi' r hr')
      (repeat (first | refine awp_seq ?_ | refine awp_block ?_ | ((first | refine awp_skip ?_ | refine awp_exit ?_); try simp only [xq, simprocAttr]) | (refine awp_ret ?_; try simp only [xq, simprocAttr]) | ((first | refine awp_reg ?_ | refine awp_anyR (by rfl) (by kernel_rfl) (by kernel_rfl) ?_); simp only [xr, simprocAttr]; repeat (guard_target =~ _ ∧ _; refine And.intro (by first | trivial | (unfold I64; omega) | omega | (refine ⟨?_, ?_⟩ <;> omega) | (simp; done) | (simp; omega) | (intros; omega)) ?_))))
      ((first | refine .inl ⟨_, (indexFuncC_d ((g.ch.getD i []).getD r []) _ [.ip [.val (.int .i64 a.1), .val (.int .i64 a.2)] 0, .ip [.sl (.ints tab)] 0] (allowC a.1 a.2 tab i) rfl fun j hj => credStr1_d (allow_k (el_at hok hj) h2 ht hil)), .inl rfl, ?_⟩ | refine ⟨_, (indexFuncC_d ((g.ch.getD i []).getD r []) _ [.ip [.val (.int .i64 a.1), .val (.int .i64 a.2)] 0, .ip [.sl (.ints tab)] 0] (allowC a.1 a.2 tab i) rfl fun j hj => credStr1_d (allow_k (el_at hok hj) h2 ht hil)), .inl rfl, ?_⟩); (try simp only [xr, simprocAttr]); repeat (guard_target =~ _ ∧ _; refine And.intro (by first | trivial | (unfold I64; omega) | omega | (refine ⟨?_, ?_⟩ <;> omega) | (simp; done) | (simp; omega) | (intros; omega)) ?_))
      rw [hk1]
      (repeat (first | refine awp_seq ?_ | refine awp_block ?_ | ((first | refine awp_skip ?_ | refine awp_exit ?_); try simp only [xq, simprocAttr]) | (refine awp_ret ?_; try simp only [xq, simprocAttr]) | ((first | refine awp_reg ?_ | refine awp_anyR (by rfl) (by kernel_rfl) (by kernel_rfl) ?_); simp only [xr, simprocAttr]; repeat (guard_target =~ _ ∧ _; refine And.intro (by first | trivial | (unfold I64; omega) | omega | (refine ⟨?_, ?_⟩ <;> omega) | (simp; done) | (simp; omega) | (intros; omega)) ?_))))
      refine ⟨r + 1, by omega, by omega, .inl ?_⟩
      ((try simp only [xk]); (repeat (refine leK_cons ?_ ?_; first | (focus (first | rfl | (simp only [xr, simprocAttr]; done) | (simp only [xr, simprocAttr]; refine int_eq1 ?_; first | trivial | (unfold I64; omega) | omega | (refine ⟨?_, ?_⟩ <;> omega) | (simp; done) | (simp; omega) | (intros; omega)))) | rotate_left)); (refine leK_nil ?_; exact (by rw [csRow_take hr', hk3]; try rfl)); (all_goals (try (simp only [xr, simprocAttr]; try refine int_eq1 ?_))))
    · have he := of_decide_eq_false he
      have hr' : r = (g.ch.getD i []).length := by omega
      subst hr'
      rw [List.take_length]
      (repeat (first | refine awp_seq ?_ | refine awp_block ?_ | ((first | refine awp_skip ?_ | refine awp_exit ?_); try simp only [xq, simprocAttr]) | (refine awp_ret ?_; try simp only [xq, simprocAttr]) | ((first | refine awp_reg ?_ | refine awp_anyR (by rfl) (by kernel_rfl) (by kernel_rfl) ?_); simp only [xr, simprocAttr]; repeat (guard_target =~ _ ∧ _; refine And.intro (by first | trivial | (unfold I64; omega) | omega | (refine ⟨?_, ?_⟩ <;> omega) | (simp; done) | (simp; omega) | (intros; omega)) ?_))))
      refine ⟨i + 1, by omega, by omega, .inr ⟨7, Nat.le_of_ble_eq_true rfl, leT_of ?_ rfl rfl rfl⟩⟩
      ((try simp only [xk]); (repeat (refine leK_cons ?_ ?_; first | (focus (first | rfl | (simp only [xr, simprocAttr]; done) | (simp only [xr, simprocAttr]; refine int_eq1 ?_; first | trivial | (unfold I64; omega) | omega | (refine ⟨?_, ?_⟩ <;> omega) | (simp; done) | (simp; omega) | (intros; omega)))) | rotate_left)); (refine leK_nil ?_; exact (by rw [csM_take hi']; try rfl)); (all_goals (try (simp only [xr, simprocAttr]; try refine int_eq1 ?_))))
  · have hd := of_decide_eq_false hd
    have hi' : i = g.ch.length := by omega
    subst hi'
    rw [List.take_of_length_le (by simp [csM])]
    (repeat (first | refine awp_seq ?_ | refine awp_block ?_ | ((first | refine awp_skip ?_ | refine awp_exit ?_); try simp only [xq, simprocAttr]) | (refine awp_ret ?_; try simp only [xq, simprocAttr]) | ((first | refine awp_reg ?_ | refine awp_anyR (by rfl) (by kernel_rfl) (by kernel_rfl) ?_); simp only [xr, simprocAttr]; repeat (guard_target =~ _ ∧ _; refine And.intro (by first | trivial | (unfold I64; omega) | omega | (refine ⟨?_, ?_⟩ <;> omega) | (simp; done) | (simp; omega) | (intros; omega)) ?_))))
    (simp only [ends_normal, ends_ret]; refine retH_2 (vs := [_, _]) [6] rfl ⟨rfl, trivial⟩ rfl rfl rfl rfl ⟨rfl, rfl, trivial⟩ ?_; try rfl)
theorem impl_CreditStrategy_i (m s : List (List Int)) (x : Int) (a : Int × Int) (tab : List Int) (hb : crdB m s x a tab = true) : Does Try.prog 36 [prA m s, .int x, frA a, .sl (.ints tab)] (.imm (.tup [.one (.b (.sl (.ii (csV m s x a tab)))), bT true])) := imm_of (impl_CreditStrategy_h m s x a tab hb)
theorem impl_CreditStrategy_0 (m s : List (List Int)) (x : Int) (a : Int × Int) (tab : List Int) (hb : crdB m s x a tab = false) : Does Try.prog 36 [prA m s, .int x, frA a, .sl (.ints tab)] (.imm (.tup [.one (.b (.val (.slice none 0 0))), bT false])) := by
  refine spec_imm Try.func36 rfl Try.ntmps36 cfOK (fun _ _ => by kernel_rfl) rfl (Nat.le_of_ble_eq_true rfl) ?_
  intro M0 w0
  rw [Try.results36]
  (repeat (first | refine awp_seq ?_ | refine awp_block ?_ | ((first | refine awp_skip ?_ | refine awp_exit ?_); try simp only [xq, simprocAttr]) | (refine awp_ret ?_; try simp only [xq, simprocAttr]) | ((first | refine awp_reg ?_ | refine awp_anyR (by rfl) (by kernel_rfl) (by kernel_rfl) ?_); simp only [xr, simprocAttr]; repeat (guard_target =~ _ ∧ _; refine And.intro (by first | trivial | (unfold I64; omega) | omega | (refine ⟨?_, ?_⟩ <;> omega) | (simp; done) | (simp; omega) | (intros; omega)) ?_))))
  cases h1 : (gmQ m s x).2
  · have hn := cs_no hb h1
    have hg := gmQ_full h1
    (refine .inr (callW_a [] (gameOf_g h1) rfl rfl rfl rfl trivial rfl rfl rfl rfl ?_); (try simp only [xr, simprocAttr]); repeat (guard_target =~ _ ∧ _; refine And.intro (by first | trivial | (unfold I64; omega) | omega | (refine ⟨?_, ?_⟩ <;> omega) | (simp; done) | (simp; omega) | (intros; omega)) ?_))
    (repeat (first | refine awp_seq ?_ | refine awp_block ?_ | ((first | refine awp_skip ?_ | refine awp_exit ?_); try simp only [xq, simprocAttr]) | (refine awp_ret ?_; try simp only [xq, simprocAttr]) | ((first | refine awp_reg ?_ | refine awp_anyR (by rfl) (by kernel_rfl) (by kernel_rfl) ?_); simp only [xr, simprocAttr]; repeat (guard_target =~ _ ∧ _; refine And.intro (by first | trivial | (unfold I64; omega) | omega | (refine ⟨?_, ?_⟩ <;> omega) | (simp; done) | (simp; omega) | (intros; omega)) ?_))))
    ((first | refine .inl ⟨_, (isRatio_d a), .inl rfl, ?_⟩ | refine ⟨_, (isRatio_d a), .inl rfl, ?_⟩); (try simp only [xr, simprocAttr]); repeat (guard_target =~ _ ∧ _; refine And.intro (by first | trivial | (unfold I64; omega) | omega | (refine ⟨?_, ?_⟩ <;> omega) | (simp; done) | (simp; omega) | (intros; omega)) ?_))
    (repeat (first | refine awp_seq ?_ | refine awp_block ?_ | ((first | refine awp_skip ?_ | refine awp_exit ?_); try simp only [xq, simprocAttr]) | (refine awp_ret ?_; try simp only [xq, simprocAttr]) | ((first | refine awp_reg ?_ | refine awp_anyR (by rfl) (by kernel_rfl) (by kernel_rfl) ?_); simp only [xr, simprocAttr]; repeat (guard_target =~ _ ∧ _; refine And.intro (by first | trivial | (unfold I64; omega) | omega | (refine ⟨?_, ?_⟩ <;> omega) | (simp; done) | (simp; omega) | (intros; omega)) ?_))))
    ((first | refine .inl ⟨_, (fun h => isCredit_d hg (by simpa using h) tab), .inl rfl, ?_⟩ | refine ⟨_, (fun h => isCredit_d hg (by simpa using h) tab), .inl rfl, ?_⟩); (try simp only [xr, simprocAttr]); repeat (guard_target =~ _ ∧ _; refine And.intro (by first | trivial | (unfold I64; omega) | omega | (refine ⟨?_, ?_⟩ <;> omega) | (simp; done) | (simp; omega) | (intros; omega)) ?_))
    (repeat (first | refine awp_seq ?_ | refine awp_block ?_ | ((first | refine awp_skip ?_ | refine awp_exit ?_); try simp only [xq, simprocAttr]) | (refine awp_ret ?_; try simp only [xq, simprocAttr]) | ((first | refine awp_reg ?_ | refine awp_anyR (by rfl) (by kernel_rfl) (by kernel_rfl) ?_); simp only [xr, simprocAttr]; repeat (guard_target =~ _ ∧ _; refine And.intro (by first | trivial | (unfold I64; omega) | omega | (refine ⟨?_, ?_⟩ <;> omega) | (simp; done) | (simp; omega) | (intros; omega)) ?_))))
    refine awp_cond (by first | rfl | (simp only [xr, simprocAttr]; rfl)) (fun hc => ?_) (fun hc => ?_)
    · (repeat (first | refine awp_seq ?_ | refine awp_block ?_ | ((first | refine awp_skip ?_ | refine awp_exit ?_); try simp only [xq, simprocAttr]) | (refine awp_ret ?_; try simp only [xq, simprocAttr]) | ((first | refine awp_reg ?_ | refine awp_anyR (by rfl) (by kernel_rfl) (by kernel_rfl) ?_); simp only [xr, simprocAttr]; repeat (guard_target =~ _ ∧ _; refine And.intro (by first | trivial | (unfold I64; omega) | omega | (refine ⟨?_, ?_⟩ <;> omega) | (simp; done) | (simp; omega) | (intros; omega)) ?_))))
      (simp only [xe, simprocAttr]; refine ⟨[_, _], ⟨rfl, rfl, trivial⟩, rfl, Imp.eq ?_⟩)
      rfl
    · have hx := hn.symm.trans hc
      cases hx
  · (refine .inr (callW_b (gameOf_b h1) rfl rfl rfl rfl rfl rfl rfl ?_); (try simp only [xr, simprocAttr]); repeat (guard_target =~ _ ∧ _; refine And.intro (by first | trivial | (unfold I64; omega) | omega | (refine ⟨?_, ?_⟩ <;> omega) | (simp; done) | (simp; omega) | (intros; omega)) ?_))
    (repeat (first | refine awp_seq ?_ | refine awp_block ?_ | ((first | refine awp_skip ?_ | refine awp_exit ?_); try simp only [xq, simprocAttr]) | (refine awp_ret ?_; try simp only [xq, simprocAttr]) | ((first | refine awp_reg ?_ | refine awp_anyR (by rfl) (by kernel_rfl) (by kernel_rfl) ?_); simp only [xr, simprocAttr]; repeat (guard_target =~ _ ∧ _; refine And.intro (by first | trivial | (unfold I64; omega) | omega | (refine ⟨?_, ?_⟩ <;> omega) | (simp; done) | (simp; omega) | (intros; omega)) ?_))))
    refine .inl ⟨.bool false, .inl rfl, ?_⟩
    simp only [xr, simprocAttr]
    (repeat (guard_target =~ _ ∧ _; refine And.intro (by first | trivial | (unfold I64; omega) | omega | (refine ⟨?_, ?_⟩ <;> omega) | (simp; done) | (simp; omega) | (intros; omega)) ?_))
    (repeat (first | refine awp_seq ?_ | refine awp_block ?_ | ((first | refine awp_skip ?_ | refine awp_exit ?_); try simp only [xq, simprocAttr]) | (refine awp_ret ?_; try simp only [xq, simprocAttr]) | ((first | refine awp_reg ?_ | refine awp_anyR (by rfl) (by kernel_rfl) (by kernel_rfl) ?_); simp only [xr, simprocAttr]; repeat (guard_target =~ _ ∧ _; refine And.intro (by first | trivial | (unfold I64; omega) | omega | (refine ⟨?_, ?_⟩ <;> omega) | (simp; done) | (simp; omega) | (intros; omega)) ?_))))
    refine .inl ⟨.bool false, .inl rfl, ?_⟩
    simp only [xr, simprocAttr]
    (repeat (guard_target =~ _ ∧ _; refine And.intro (by first | trivial | (unfold I64; omega) | omega | (refine ⟨?_, ?_⟩ <;> omega) | (simp; done) | (simp; omega) | (intros; omega)) ?_))
    (repeat (first | refine awp_seq ?_ | refine awp_block ?_ | ((first | refine awp_skip ?_ | refine awp_exit ?_); try simp only [xq, simprocAttr]) | (refine awp_ret ?_; try simp only [xq, simprocAttr]) | ((first | refine awp_reg ?_ | refine awp_anyR (by rfl) (by kernel_rfl) (by kernel_rfl) ?_); simp only [xr, simprocAttr]; repeat (guard_target =~ _ ∧ _; refine And.intro (by first | trivial | (unfold I64; omega) | omega | (refine ⟨?_, ?_⟩ <;> omega) | (simp; done) | (simp; omega) | (intros; omega)) ?_))))
    refine awp_cond (by first | rfl | (simp only [xr, simprocAttr]; rfl)) (fun hc => ?_) (fun hc => ?_)
    · (repeat (first | refine awp_seq ?_ | refine awp_block ?_ | ((first | refine awp_skip ?_ | refine awp_exit ?_); try simp only [xq, simprocAttr]) | (refine awp_ret ?_; try simp only [xq, simprocAttr]) | ((first | refine awp_reg ?_ | refine awp_anyR (by rfl) (by kernel_rfl) (by kernel_rfl) ?_); simp only [xr, simprocAttr]; repeat (guard_target =~ _ ∧ _; refine And.intro (by first | trivial | (unfold I64; omega) | omega | (refine ⟨?_, ?_⟩ <;> omega) | (simp; done) | (simp; omega) | (intros; omega)) ?_))))
      (simp only [xe, simprocAttr]; refine ⟨[_, _], ⟨rfl, rfl, trivial⟩, rfl, Imp.eq ?_⟩)
      rfl
    · cases hc
set_option maxHeartbeats 2000000 in
theorem spec_CreditStrategy_d (m s : List (List Int)) (x : Int) (a : Int × Int) (tab : List Int) : Does Try.prog 35 [prA m s, .int x, frA a, .sl (.ints tab)] (.imm (.tup [.one (.b (.sl (.ii (if crdB m s x a tab then csV m s x a tab else [])))), bT (crdB m s x a tab)])) := by
  refine spec_imm Try.func35 rfl Try.ntmps35 cfOK (fun _ _ => by kernel_rfl) rfl (Nat.le_of_ble_eq_true rfl) ?_
  intro M0 w0
  rw [Try.results35]
  (repeat (first | refine awp_seq ?_ | refine awp_block ?_ | ((first | refine awp_skip ?_ | refine awp_exit ?_); try simp only [xq, simprocAttr]) | (refine awp_ret ?_; try simp only [xq, simprocAttr]) | ((first | refine awp_reg ?_ | refine awp_anyR (by rfl) (by kernel_rfl) (by kernel_rfl) ?_); simp only [xr, simprocAttr]; repeat (guard_target =~ _ ∧ _; refine And.intro (by first | trivial | (unfold I64; omega) | omega | (refine ⟨?_, ?_⟩ <;> omega) | (simp; done) | (simp; omega) | (intros; omega)) ?_))))
  cases h1 : (gmQ m s x).2
  · have hg := gmQ_full h1
    have ht := gmQ_takes h1
    ((first | refine .inl ⟨_, (l10Get_g ht), .inr (by and_intros <;> first | rfl | (simp; done)), ?_⟩ | refine ⟨_, (l10Get_g ht), .inr (by and_intros <;> first | rfl | (simp; done)), ?_⟩); (try simp only [xr, simprocAttr]); repeat (guard_target =~ _ ∧ _; refine And.intro (by first | trivial | (unfold I64; omega) | omega | (refine ⟨?_, ?_⟩ <;> omega) | (simp; done) | (simp; omega) | (intros; omega)) ?_))
    rw [h1]
    (repeat (first | refine awp_seq ?_ | refine awp_block ?_ | ((first | refine awp_skip ?_ | refine awp_exit ?_); try simp only [xq, simprocAttr]) | (refine awp_ret ?_; try simp only [xq, simprocAttr]) | ((first | refine awp_reg ?_ | refine awp_anyR (by rfl) (by kernel_rfl) (by kernel_rfl) ?_); simp only [xr, simprocAttr]; repeat (guard_target =~ _ ∧ _; refine And.intro (by first | trivial | (unfold I64; omega) | omega | (refine ⟨?_, ?_⟩ <;> omega) | (simp; done) | (simp; omega) | (intros; omega)) ?_))))
    ((first | refine .inl ⟨_, (l9Ratio_d a), .inl rfl, ?_⟩ | refine ⟨_, (l9Ratio_d a), .inl rfl, ?_⟩); (try simp only [xr, simprocAttr]); repeat (guard_target =~ _ ∧ _; refine And.intro (by first | trivial | (unfold I64; omega) | omega | (refine ⟨?_, ?_⟩ <;> omega) | (simp; done) | (simp; omega) | (intros; omega)) ?_))
    (repeat (first | refine awp_seq ?_ | refine awp_block ?_ | ((first | refine awp_skip ?_ | refine awp_exit ?_); try simp only [xq, simprocAttr]) | (refine awp_ret ?_; try simp only [xq, simprocAttr]) | ((first | refine awp_reg ?_ | refine awp_anyR (by rfl) (by kernel_rfl) (by kernel_rfl) ?_); simp only [xr, simprocAttr]; repeat (guard_target =~ _ ∧ _; refine And.intro (by first | trivial | (unfold I64; omega) | omega | (refine ⟨?_, ?_⟩ <;> omega) | (simp; done) | (simp; omega) | (intros; omega)) ?_))))
    ((first | refine .inl ⟨_, (fun h => l10Credit_d hg _ (by simpa using h) tab), .inl rfl, ?_⟩ | refine ⟨_, (fun h => l10Credit_d hg _ (by simpa using h) tab), .inl rfl, ?_⟩); (try simp only [xr, simprocAttr]); repeat (guard_target =~ _ ∧ _; refine And.intro (by first | trivial | (unfold I64; omega) | omega | (refine ⟨?_, ?_⟩ <;> omega) | (simp; done) | (simp; omega) | (intros; omega)) ?_))
    (repeat (first | refine awp_seq ?_ | refine awp_block ?_ | ((first | refine awp_skip ?_ | refine awp_exit ?_); try simp only [xq, simprocAttr]) | (refine awp_ret ?_; try simp only [xq, simprocAttr]) | ((first | refine awp_reg ?_ | refine awp_anyR (by rfl) (by kernel_rfl) (by kernel_rfl) ?_); simp only [xr, simprocAttr]; repeat (guard_target =~ _ ∧ _; refine And.intro (by first | trivial | (unfold I64; omega) | omega | (refine ⟨?_, ?_⟩ <;> omega) | (simp; done) | (simp; omega) | (intros; omega)) ?_))))
    cases hb : crdB m s x a tab
    · have hn := cs_no hb h1
      refine awp_cond (by first | rfl | (simp only [xr, simprocAttr]; rfl)) (fun hc => ?_) (fun hc => ?_)
      · (repeat (first | refine awp_seq ?_ | refine awp_block ?_ | ((first | refine awp_skip ?_ | refine awp_exit ?_); try simp only [xq, simprocAttr]) | ((first | refine awp_reg ?_ | refine awp_anyR (by rfl) (by kernel_rfl) (by kernel_rfl) ?_); simp only [xr, simprocAttr]; repeat (guard_target =~ _ ∧ _; refine And.intro (by first | trivial | (unfold I64; omega) | omega | (refine ⟨?_, ?_⟩ <;> omega) | (simp; done) | (simp; omega) | (intros; omega)) ?_))))
        (refine awp_frz 2 rfl ?_; simp only [xz, simprocAttr])
        (repeat (first | refine awp_seq ?_ | refine awp_block ?_ | ((first | refine awp_skip ?_ | refine awp_exit ?_); try simp only [xq, simprocAttr]) | (refine awp_ret ?_; try simp only [xq, simprocAttr]) | ((first | refine awp_reg ?_ | refine awp_anyR (by rfl) (by kernel_rfl) (by kernel_rfl) ?_); simp only [xr, simprocAttr]; repeat (guard_target =~ _ ∧ _; refine And.intro (by first | trivial | (unfold I64; omega) | omega | (refine ⟨?_, ?_⟩ <;> omega) | (simp; done) | (simp; omega) | (intros; omega)) ?_))))
        (simp only [xe, simprocAttr]; refine ⟨[_, _], ⟨rfl, rfl, trivial⟩, rfl, Imp.eq ?_⟩)
        rfl
      · have hx := hn.symm.trans hc
        cases hx
    · obtain ⟨-, h2, h3⟩ := crdB_ok hb
      rw [h2, h3, show csV m s x a tab = csM (gmQ m s x).1 a tab from rfl]
      generalize (gmQ m s x).1 = g at hg h3
      have hle := hg.le
      have hcl := hg.clen
      obtain ⟨ht, hal⟩ := creditB_iff.1 h3
      have ht : tbB g.list.length tab = true := ht
      have hl4 : (ch4 g.ch).length = g.ch.length := by simp [ch4]
      refine awp_cond (by first | rfl | (simp only [xr, simprocAttr]; rfl)) (fun hc => ?_) (fun hc => ?_)
      · cases hc
      (repeat (first | refine awp_seq ?_ | refine awp_block ?_ | ((first | refine awp_skip ?_ | refine awp_exit ?_); try simp only [xq, simprocAttr]) | (refine awp_ret ?_; try simp only [xq, simprocAttr]) | ((first | refine awp_reg ?_ | refine awp_anyR (by rfl) (by kernel_rfl) (by kernel_rfl) ?_); simp only [xr, simprocAttr]; repeat (guard_target =~ _ ∧ _; refine And.intro (by first | trivial | (unfold I64; omega) | omega | (refine ⟨?_, ?_⟩ <;> omega) | (simp; done) | (simp; omega) | (intros; omega)) ?_))))
      refine awp_rounds (α := Nat) (fun i => [(13, true, .int i)]) [3, 6, 10, 11] (fun i => [.box [.b (.sl (.ii m)), .b (.sl (.ii s))], .box [.b (.val (.int .i64 a.1)), .b (.val (.int .i64 a.2))], .row 27 (.ii ((csM g a tab).take i)), .box [.b (.sl (.k 2 g.list)), .b (.sl (.kii 4 (ch4 g.ch))), .b (.val (.bool false))]]) (fun i => i ≤ g.ch.length) (fun i => g.ch.length - i) 0 (by ((try simp only [xk]); (repeat (refine leK_cons ?_ ?_; first | (focus (first | rfl | (simp only [xr, simprocAttr]; done) | (simp only [xr, simprocAttr]; refine int_eq1 ?_; first | trivial | (unfold I64; omega) | omega | (refine ⟨?_, ?_⟩ <;> omega) | (simp; done) | (simp; omega) | (intros; omega)))) | rotate_left)); (refine leK_nil ?_; exact (by simp)); (all_goals (try (simp only [xr, simprocAttr]; try refine int_eq1 ?_))))) (Nat.zero_le _) fun i hi => ?_
      have hpl : ((csM g a tab).take i).length = i := by simp [csM]; omega
      simp only [xr, simprocAttr]
      (repeat (first | refine awp_seq ?_ | refine awp_block ?_ | ((first | refine awp_skip ?_ | refine awp_exit ?_); try simp only [xq, simprocAttr]) | (refine awp_ret ?_; try simp only [xq, simprocAttr]) | ((first | refine awp_reg ?_ | refine awp_anyR (by rfl) (by kernel_rfl) (by kernel_rfl) ?_); simp only [xr, simprocAttr]; repeat (guard_target =~ _ ∧ _; refine And.intro (by first | trivial | (unfold I64; omega) | omega | (refine ⟨?_, ?_⟩ <;> omega) | (simp; done) | (simp; omega) | (intros; omega)) ?_))))
      refine awp_cond (by first | rfl | (simp only [xr, simprocAttr]; rfl)) (fun hd => ?_) (fun hd => ?_)
      · have hd := of_decide_eq_true hd
        have hi' : i < g.ch.length := by omega
        have hrl := hg.c.len i hi'
        have hpl4 := prob_len hg.prob
        have h4 := ch4_at hi'
        have h4l : ((ch4 g.ch).getD i []).length = (g.ch.getD i []).length := by rw [h4, List.length_map]
        (repeat (first | refine awp_seq ?_ | refine awp_block ?_ | ((first | refine awp_skip ?_ | refine awp_exit ?_); try simp only [xq, simprocAttr]) | (refine awp_ret ?_; try simp only [xq, simprocAttr]) | ((first | refine awp_reg ?_ | refine awp_anyR (by rfl) (by kernel_rfl) (by kernel_rfl) ?_); simp only [xr, simprocAttr]; repeat (guard_target =~ _ ∧ _; refine And.intro (by first | trivial | (unfold I64; omega) | omega | (refine ⟨?_, ?_⟩ <;> omega) | (simp; done) | (simp; omega) | (intros; omega)) ?_))))
        refine awp_rounds (α := Nat) (fun r => [(15, true, .int r)]) [3, 6, 10, 11, 13, 14] (fun r => [.box [.b (.sl (.ii m)), .b (.sl (.ii s))], .box [.b (.val (.int .i64 a.1)), .b (.val (.int .i64 a.2))], .row 27 (.ii ((csM g a tab).take i)), .box [.b (.sl (.k 2 g.list)), .b (.sl (.kii 4 (ch4 g.ch))), .b (.val (.bool false))], .row 3 (.ints (csRow a tab i ((g.ch.getD i []).take r)))]) (fun r => r ≤ (g.ch.getD i []).length) (fun r => (g.ch.getD i []).length - r) 0 (by ((try simp only [xk]); (repeat (refine leK_cons ?_ ?_; first | (focus (first | rfl | (simp only [xr, simprocAttr]; done) | (simp only [xr, simprocAttr]; refine int_eq1 ?_; first | trivial | (unfold I64; omega) | omega | (refine ⟨?_, ?_⟩ <;> omega) | (simp; done) | (simp; omega) | (intros; omega)))) | rotate_left)); (refine leK_nil ?_; exact (by simp [csRow])); (all_goals (try (simp only [xr, simprocAttr]; try refine int_eq1 ?_))))) (Nat.zero_le _) fun r hr => ?_
        have hrl2 : (csRow a tab i ((g.ch.getD i []).take r)).length = r := by rw [csRow, List.length_map, List.length_take]; omega
        simp only [xr, simprocAttr]
        (repeat (first | refine awp_seq ?_ | refine awp_block ?_ | ((first | refine awp_skip ?_ | refine awp_exit ?_); try simp only [xq, simprocAttr]) | (refine awp_ret ?_; try simp only [xq, simprocAttr]) | ((first | refine awp_reg ?_ | refine awp_anyR (by rfl) (by kernel_rfl) (by kernel_rfl) ?_); simp only [xr, simprocAttr]; repeat (guard_target =~ _ ∧ _; refine And.intro (by first | trivial | (unfold I64; omega) | omega | (refine ⟨?_, ?_⟩ <;> omega) | (simp; done) | (simp; omega) | (intros; omega)) ?_))))
        refine awp_cond (by first | rfl | (simp only [xr, simprocAttr]; rfl)) (fun he => ?_) (fun he => ?_)
        · have he := of_decide_eq_true he
          have hr' : r < (g.ch.getD i []).length := by omega
          (repeat (first | refine awp_seq ?_ | refine awp_block ?_ | ((first | refine awp_skip ?_ | refine awp_exit ?_); try simp only [xq, simprocAttr]) | (refine awp_ret ?_; try simp only [xq, simprocAttr]) | ((first | refine awp_reg ?_ | refine awp_anyR (by rfl) (by kernel_rfl) (by kernel_rfl) ?_); simp only [xr, simprocAttr]; repeat (guard_target =~ _ ∧ _; refine And.intro (by first | trivial | (unfold I64; omega) | omega | (refine ⟨?_, ?_⟩ <;> omega) | (simp; done) | (simp; omega) | (intros; omega)) ?_))))
          ((first | refine .inl ⟨_, (l10Allowed_d hg _ h2 ht hi' hr'), .inl rfl, ?_⟩ | refine ⟨_, (l10Allowed_d hg _ h2 ht hi' hr'), .inl rfl, ?_⟩); (try simp only [xr, simprocAttr]); repeat (guard_target =~ _ ∧ _; refine And.intro (by first | trivial | (unfold I64; omega) | omega | (refine ⟨?_, ?_⟩ <;> omega) | (simp; done) | (simp; omega) | (intros; omega)) ?_))
          (repeat (first | refine awp_seq ?_ | refine awp_block ?_ | ((first | refine awp_skip ?_ | refine awp_exit ?_); try simp only [xq, simprocAttr]) | (refine awp_ret ?_; try simp only [xq, simprocAttr]) | ((first | refine awp_reg ?_ | refine awp_anyR (by rfl) (by kernel_rfl) (by kernel_rfl) ?_); simp only [xr, simprocAttr]; repeat (guard_target =~ _ ∧ _; refine And.intro (by first | trivial | (unfold I64; omega) | omega | (refine ⟨?_, ?_⟩ <;> omega) | (simp; done) | (simp; omega) | (intros; omega)) ?_))))
          refine ⟨r + 1, by omega, by omega, .inl ?_⟩
          ((try simp only [xk]); (repeat (refine leK_cons ?_ ?_; first | (focus (first | rfl | (simp only [xr, simprocAttr]; done) | (simp only [xr, simprocAttr]; refine int_eq1 ?_; first | trivial | (unfold I64; omega) | omega | (refine ⟨?_, ?_⟩ <;> omega) | (simp; done) | (simp; omega) | (intros; omega)))) | rotate_left)); (refine leK_nil ?_; exact (by rw [csRow_take hr']; try rfl)); (all_goals (try (simp only [xr, simprocAttr]; try refine int_eq1 ?_))))
        · have he := of_decide_eq_false he
          have hr' : r = (g.ch.getD i []).length := by omega
          subst hr'
          rw [List.take_length]
          (refine awp_frz 4 rfl ?_; simp only [xz, simprocAttr])
          (repeat (first | refine awp_seq ?_ | refine awp_block ?_ | ((first | refine awp_skip ?_ | refine awp_exit ?_); try simp only [xq, simprocAttr]) | (refine awp_ret ?_; try simp only [xq, simprocAttr]) | ((first | refine awp_reg ?_ | refine awp_anyR (by rfl) (by kernel_rfl) (by kernel_rfl) ?_); simp only [xr, simprocAttr]; repeat (guard_target =~ _ ∧ _; refine And.intro (by first | trivial | (unfold I64; omega) | omega | (refine ⟨?_, ?_⟩ <;> omega) | (simp; done) | (simp; omega) | (intros; omega)) ?_))))
          refine ⟨i + 1, by omega, by omega, .inr ⟨4, Nat.le_of_ble_eq_true rfl, leT_of ?_ rfl rfl rfl⟩⟩
          ((try simp only [xk]); (repeat (refine leK_cons ?_ ?_; first | (focus (first | rfl | (simp only [xr, simprocAttr]; done) | (simp only [xr, simprocAttr]; refine int_eq1 ?_; first | trivial | (unfold I64; omega) | omega | (refine ⟨?_, ?_⟩ <;> omega) | (simp; done) | (simp; omega) | (intros; omega)))) | rotate_left)); (refine leK_nil ?_; exact (by rw [csM_take hi']; try rfl)); (all_goals (try (simp only [xr, simprocAttr]; try refine int_eq1 ?_))))
      · have hd := of_decide_eq_false hd
        have hi' : i = g.ch.length := by omega
        subst hi'
        rw [List.take_of_length_le (by simp [csM])]
        (repeat (first | refine awp_seq ?_ | refine awp_block ?_ | ((first | refine awp_skip ?_ | refine awp_exit ?_); try simp only [xq, simprocAttr]) | ((first | refine awp_reg ?_ | refine awp_anyR (by rfl) (by kernel_rfl) (by kernel_rfl) ?_); simp only [xr, simprocAttr]; repeat (guard_target =~ _ ∧ _; refine And.intro (by first | trivial | (unfold I64; omega) | omega | (refine ⟨?_, ?_⟩ <;> omega) | (simp; done) | (simp; omega) | (intros; omega)) ?_))))
        (refine awp_frz 2 rfl ?_; simp only [xz, simprocAttr])
        (repeat (first | refine awp_seq ?_ | refine awp_block ?_ | ((first | refine awp_skip ?_ | refine awp_exit ?_); try simp only [xq, simprocAttr]) | (refine awp_ret ?_; try simp only [xq, simprocAttr]) | ((first | refine awp_reg ?_ | refine awp_anyR (by rfl) (by kernel_rfl) (by kernel_rfl) ?_); simp only [xr, simprocAttr]; repeat (guard_target =~ _ ∧ _; refine And.intro (by first | trivial | (unfold I64; omega) | omega | (refine ⟨?_, ?_⟩ <;> omega) | (simp; done) | (simp; omega) | (intros; omega)) ?_))))
        (simp only [xe, simprocAttr]; refine ⟨[_, _], ⟨rfl, rfl, trivial⟩, rfl, Imp.eq ?_⟩)
        rfl
  · have hb : crdB m s x a tab = false := by unfold crdB okB; rw [h1]; rfl
    rw [hb]
    cases ht : takesB m s x []
    · ((first | refine .inl ⟨_, (l10Get_b ht), .inr (by and_intros <;> first | rfl | (simp; done)), ?_⟩ | refine ⟨_, (l10Get_b ht), .inr (by and_intros <;> first | rfl | (simp; done)), ?_⟩); (try simp only [xr, simprocAttr]); repeat (guard_target =~ _ ∧ _; refine And.intro (by first | trivial | (unfold I64; omega) | omega | (refine ⟨?_, ?_⟩ <;> omega) | (simp; done) | (simp; omega) | (intros; omega)) ?_))
      (repeat (first | refine awp_seq ?_ | refine awp_block ?_ | ((first | refine awp_skip ?_ | refine awp_exit ?_); try simp only [xq, simprocAttr]) | (refine awp_ret ?_; try simp only [xq, simprocAttr]) | ((first | refine awp_reg ?_ | refine awp_anyR (by rfl) (by kernel_rfl) (by kernel_rfl) ?_); simp only [xr, simprocAttr]; repeat (guard_target =~ _ ∧ _; refine And.intro (by first | trivial | (unfold I64; omega) | omega | (refine ⟨?_, ?_⟩ <;> omega) | (simp; done) | (simp; omega) | (intros; omega)) ?_))))
      refine .inl ⟨.bool false, .inl rfl, ?_⟩
      simp only [xr, simprocAttr]
      (repeat (guard_target =~ _ ∧ _; refine And.intro (by first | trivial | (unfold I64; omega) | omega | (refine ⟨?_, ?_⟩ <;> omega) | (simp; done) | (simp; omega) | (intros; omega)) ?_))
      (repeat (first | refine awp_seq ?_ | refine awp_block ?_ | ((first | refine awp_skip ?_ | refine awp_exit ?_); try simp only [xq, simprocAttr]) | (refine awp_ret ?_; try simp only [xq, simprocAttr]) | ((first | refine awp_reg ?_ | refine awp_anyR (by rfl) (by kernel_rfl) (by kernel_rfl) ?_); simp only [xr, simprocAttr]; repeat (guard_target =~ _ ∧ _; refine And.intro (by first | trivial | (unfold I64; omega) | omega | (refine ⟨?_, ?_⟩ <;> omega) | (simp; done) | (simp; omega) | (intros; omega)) ?_))))
      refine .inl ⟨.bool false, .inl rfl, ?_⟩
      simp only [xr, simprocAttr]
      (repeat (guard_target =~ _ ∧ _; refine And.intro (by first | trivial | (unfold I64; omega) | omega | (refine ⟨?_, ?_⟩ <;> omega) | (simp; done) | (simp; omega) | (intros; omega)) ?_))
      (repeat (first | refine awp_seq ?_ | refine awp_block ?_ | ((first | refine awp_skip ?_ | refine awp_exit ?_); try simp only [xq, simprocAttr]) | (refine awp_ret ?_; try simp only [xq, simprocAttr]) | ((first | refine awp_reg ?_ | refine awp_anyR (by rfl) (by kernel_rfl) (by kernel_rfl) ?_); simp only [xr, simprocAttr]; repeat (guard_target =~ _ ∧ _; refine And.intro (by first | trivial | (unfold I64; omega) | omega | (refine ⟨?_, ?_⟩ <;> omega) | (simp; done) | (simp; omega) | (intros; omega)) ?_))))
      refine awp_cond (by first | rfl | (simp only [xr, simprocAttr]; rfl)) (fun hc => ?_) (fun hc => ?_)
      · (repeat (first | refine awp_seq ?_ | refine awp_block ?_ | ((first | refine awp_skip ?_ | refine awp_exit ?_); try simp only [xq, simprocAttr]) | ((first | refine awp_reg ?_ | refine awp_anyR (by rfl) (by kernel_rfl) (by kernel_rfl) ?_); simp only [xr, simprocAttr]; repeat (guard_target =~ _ ∧ _; refine And.intro (by first | trivial | (unfold I64; omega) | omega | (refine ⟨?_, ?_⟩ <;> omega) | (simp; done) | (simp; omega) | (intros; omega)) ?_))))
        (refine awp_frz 2 rfl ?_; simp only [xz, simprocAttr])
        (repeat (first | refine awp_seq ?_ | refine awp_block ?_ | ((first | refine awp_skip ?_ | refine awp_exit ?_); try simp only [xq, simprocAttr]) | (refine awp_ret ?_; try simp only [xq, simprocAttr]) | ((first | refine awp_reg ?_ | refine awp_anyR (by rfl) (by kernel_rfl) (by kernel_rfl) ?_); simp only [xr, simprocAttr]; repeat (guard_target =~ _ ∧ _; refine And.intro (by first | trivial | (unfold I64; omega) | omega | (refine ⟨?_, ?_⟩ <;> omega) | (simp; done) | (simp; omega) | (intros; omega)) ?_))))
        (simp only [xe, simprocAttr]; refine ⟨[_, _], ⟨rfl, rfl, trivial⟩, rfl, Imp.eq ?_⟩)
        rfl
      · cases hc
    · ((first | refine .inl ⟨_, (l10Get_g ht), .inr (by and_intros <;> first | rfl | (simp; done)), ?_⟩ | refine ⟨_, (l10Get_g ht), .inr (by and_intros <;> first | rfl | (simp; done)), ?_⟩); (try simp only [xr, simprocAttr]); repeat (guard_target =~ _ ∧ _; refine And.intro (by first | trivial | (unfold I64; omega) | omega | (refine ⟨?_, ?_⟩ <;> omega) | (simp; done) | (simp; omega) | (intros; omega)) ?_))
      rw [h1]
      (repeat (first | refine awp_seq ?_ | refine awp_block ?_ | ((first | refine awp_skip ?_ | refine awp_exit ?_); try simp only [xq, simprocAttr]) | (refine awp_ret ?_; try simp only [xq, simprocAttr]) | ((first | refine awp_reg ?_ | refine awp_anyR (by rfl) (by kernel_rfl) (by kernel_rfl) ?_); simp only [xr, simprocAttr]; repeat (guard_target =~ _ ∧ _; refine And.intro (by first | trivial | (unfold I64; omega) | omega | (refine ⟨?_, ?_⟩ <;> omega) | (simp; done) | (simp; omega) | (intros; omega)) ?_))))
      refine .inl ⟨.bool false, .inl rfl, ?_⟩
      simp only [xr, simprocAttr]
      (repeat (guard_target =~ _ ∧ _; refine And.intro (by first | trivial | (unfold I64; omega) | omega | (refine ⟨?_, ?_⟩ <;> omega) | (simp; done) | (simp; omega) | (intros; omega)) ?_))
      (repeat (first | refine awp_seq ?_ | refine awp_block ?_ | ((first | refine awp_skip ?_ | refine awp_exit ?_); try simp only [xq, simprocAttr]) | (refine awp_ret ?_; try simp only [xq, simprocAttr]) | ((first | refine awp_reg ?_ | refine awp_anyR (by rfl) (by kernel_rfl) (by kernel_rfl) ?_); simp only [xr, simprocAttr]; repeat (guard_target =~ _ ∧ _; refine And.intro (by first | trivial | (unfold I64; omega) | omega | (refine ⟨?_, ?_⟩ <;> omega) | (simp; done) | (simp; omega) | (intros; omega)) ?_))))
      refine .inl ⟨.bool false, .inl rfl, ?_⟩
      simp only [xr, simprocAttr]
      (repeat (guard_target =~ _ ∧ _; refine And.intro (by first | trivial | (unfold I64; omega) | omega | (refine ⟨?_, ?_⟩ <;> omega) | (simp; done) | (simp; omega) | (intros; omega)) ?_))
      (repeat (first | refine awp_seq ?_ | refine awp_block ?_ | ((first | refine awp_skip ?_ | refine awp_exit ?_); try simp only [xq, simprocAttr]) | (refine awp_ret ?_; try simp only [xq, simprocAttr]) | ((first | refine awp_reg ?_ | refine awp_anyR (by rfl) (by kernel_rfl) (by kernel_rfl) ?_); simp only [xr, simprocAttr]; repeat (guard_target =~ _ ∧ _; refine And.intro (by first | trivial | (unfold I64; omega) | omega | (refine ⟨?_, ?_⟩ <;> omega) | (simp; done) | (simp; omega) | (intros; omega)) ?_))))
      refine awp_cond (by first | rfl | (simp only [xr, simprocAttr]; rfl)) (fun hc => ?_) (fun hc => ?_)
      · (repeat (first | refine awp_seq ?_ | refine awp_block ?_ | ((first | refine awp_skip ?_ | refine awp_exit ?_); try simp only [xq, simprocAttr]) | ((first | refine awp_reg ?_ | refine awp_anyR (by rfl) (by kernel_rfl) (by kernel_rfl) ?_); simp only [xr, simprocAttr]; repeat (guard_target =~ _ ∧ _; refine And.intro (by first | trivial | (unfold I64; omega) | omega | (refine ⟨?_, ?_⟩ <;> omega) | (simp; done) | (simp; omega) | (intros; omega)) ?_))))
        (refine awp_frz 2 rfl ?_; simp only [xz, simprocAttr])
        (repeat (first | refine awp_seq ?_ | refine awp_block ?_ | ((first | refine awp_skip ?_ | refine awp_exit ?_); try simp only [xq, simprocAttr]) | (refine awp_ret ?_; try simp only [xq, simprocAttr]) | ((first | refine awp_reg ?_ | refine awp_anyR (by rfl) (by kernel_rfl) (by kernel_rfl) ?_); simp only [xr, simprocAttr]; repeat (guard_target =~ _ ∧ _; refine And.intro (by first | trivial | (unfold I64; omega) | omega | (refine ⟨?_, ?_⟩ <;> omega) | (simp; done) | (simp; omega) | (intros; omega)) ?_))))
        (simp only [xe, simprocAttr]; refine ⟨[_, _], ⟨rfl, rfl, trivial⟩, rfl, Imp.eq ?_⟩)
        rfl
      · cases hc
end Go.Proofs.Ytlmhajdhpdpanaa
