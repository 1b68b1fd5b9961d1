/- Algorithms told by functions, and how many there are, on the machine. Conditions: a problem that is right. -/
import Derived.Test.YtlhdeofkhajigaaAlgP
import Derived.Test.YtlhdeofkhajigaaMixS
import Derived.Test.YtlhdeofkhajigaaGCM
set_option linter.all false
set_option linter.unusedSimpArgs false
set_option linter.unusedVariables false
namespace Go.Proofs.Ytlhdeofkhajigaa
open Go Go.RowKit Am

/-- the algorithm that a function tells -/
def tabF (n K : Nat) (F : Nat → Nat → Int) : List (List Int) := (List.range n).map fun i => (List.range K).map fun r => F i r
theorem tabF_take {n K : Nat} {F : Nat → Nat → Int} {i : Nat} (h : i < n) : (tabF n K F).take (i + 1) = (tabF n K F).take i ++ [(List.range K).map fun r => F i r] := by
  unfold tabF
  rw [← List.map_take, ← List.map_take, List.take_range, List.take_range, Nat.min_eq_left (by omega), Nat.min_eq_left (by omega), List.range_succ, List.map_append]
  rfl
abbrev pC (m s : List (List Int)) : Lf := .ip [.sl (.ii m), .sl (.ii s)] 0
set_option maxHeartbeats 1000000 in
theorem algorithmBy_h {m s : List (List Int)} (hp : probB m s = true) {f : Nat} {F : Nat → Nat → Int} (hF : ∀ i r, i < m.length → r < s.length → Does Try.prog f [.int i, .int r, .lf (pC m s)] (.imm (.int (F i r)))) :
    DoesH Try.prog 48 [prA m s, .clo f [pC m s]] [] [] (.lf (.own 0)) [.tree [29, 3] (.ii (tabF m.length s.length F))] := by
  have hl := prob_len hp
  refine spec_hB Try.func48 rfl Try.ntmps48 cfOK (fun _ _ => by kernel_rfl) rfl rfl rfl ?_
  intro M0 w0 S φ0
  rw [Try.results48]
  refine amGo ?_
  (refine awp_toT 1 3 [] rfl rfl rfl ?_; simp only [xu, simprocAttr])
  refine awp_rounds (α := Nat) (fun i => [(13, true, .int i)]) [1, 2, 5, 12] (fun i => [.box [.b (.sl (.ii m)), .b (.sl (.ii s))], .tree [29, 3] (.ii ((tabF m.length s.length F).take i))]) (fun i => i ≤ m.length) (fun i => m.length - i) 0 (by ((try simp only [xk]); (repeat (refine leK_cons ?_ ?_; first | (exact amE) | rotate_left)); (refine leK_nil ?_; exact (by rfl)); (all_goals (try (simp only [xr, simprocAttr]; try refine int_eq1 ?_))))) (Nat.zero_le _) fun i hi => ?_
  have hpl : ((tabF m.length s.length F).take i).length = i := by simp [tabF]; omega
  simp only [xr, simprocAttr]
  refine amGo ?_
  refine awp_cond amQ (fun hd => ?_) (fun hd => ?_)
  · have hd := of_decide_eq_true hd
    have hi' : i < m.length := by omega
    refine amGo ?_
    refine awp_rounds (α := Nat) (fun r => [(20, true, .int r)]) [1, 2, 5, 6, 7, 12, 13, 19] (fun r => [.box [.b (.sl (.ii m)), .b (.sl (.ii s))], .tree [29, 3] (.ii ((tabF m.length s.length F).take i)), .row 3 (.ints ((List.range r).map fun r => F i r))]) (fun r => r ≤ s.length) (fun r => s.length - r) 0 (by ((try simp only [xk]); (repeat (refine leK_cons ?_ ?_; first | (exact amE) | rotate_left)); (refine leK_nil ?_; exact (by rfl)); (all_goals (try (simp only [xr, simprocAttr]; try refine int_eq1 ?_))))) (Nat.zero_le _) fun r hr => ?_
    have hrl : ((List.range r).map fun r => F i r).length = r := by simp
    simp only [xr, simprocAttr]
    refine amGo ?_
    refine awp_cond amQ (fun he => ?_) (fun he => ?_)
    · have he := of_decide_eq_true he
      have hr' : r < s.length := by omega
      refine amGo ?_
      ((try refine Or.inl ?_); refine ⟨_, (hF i r hi' hr'), amF, ?_⟩; refine amC ?_)
      refine amGo ?_
      refine ⟨r + 1, by omega, by omega, .inl ?_⟩
      ((try simp only [xk]); (repeat (refine leK_cons ?_ ?_; first | (exact amE) | rotate_left)); (refine leK_nil ?_; exact (by rw [List.range_succ, List.map_append] <;> rfl)); (all_goals (try (simp only [xr, simprocAttr]; try refine int_eq1 ?_))))
    · have he := of_decide_eq_false he
      obtain rfl : r = s.length := by omega
      refine amGo ?_
      refine ⟨i + 1, by omega, by omega, .inr ⟨2, Nat.le_of_ble_eq_true rfl, leT_of ?_ rfl rfl rfl⟩⟩
      ((try simp only [xk]); (repeat (refine leK_cons ?_ ?_; first | (exact amE) | rotate_left)); (refine leK_nil ?_; exact (by rw [tabF_take hi'] <;> rfl)); (all_goals (try (simp only [xr, simprocAttr]; try refine int_eq1 ?_))))
  · have hd := of_decide_eq_false hd
    obtain rfl : i = m.length := by omega
    rw [List.take_of_length_le (by simp [tabF])]
    refine amGo ?_
    (simp only [ends_normal, ends_ret]; refine retH_1 [1] rfl ⟨rfl, trivial⟩ rfl rfl rfl rfl rfl ?_; try rfl)
theorem best1_d {m s : List (List Int)} (hp : probB m s = true) (i r : Nat) (hr : r < s.length) : Does Try.prog 49 [.int i, .int r, .lf (pC m s)] (.imm (.int ((srv s m.length r).getD 0 0))) := by
  have hl := prob_len hp
  have h0 : 0 < (srv s m.length r).length := by
    have := op_pos hp (0 * s.length + r)
    rw [op_cR 0 r hr] at this
    exact this
  refine spec_imm Try.func49 rfl Try.ntmps49 cfOK (fun _ _ => by kernel_rfl) rfl (Nat.le_of_ble_eq_true rfl) ?_
  intro M0 w0
  rw [Try.results49]
  refine amGo ?_
  ((try refine Or.inl ?_); refine ⟨_, (served_d m s r hr (prob_rows hp r hr) (by omega)), amF, ?_⟩; refine amC ?_)
  refine amGo ?_
  (simp only [xe, simprocAttr]; refine ⟨_, rfl, rfl, Imp.eq ?_⟩)
  rfl
theorem cnt_bd {m s : List (List Int)} (hp : probB m s = true) : ∀ p, cntP (opP m s) p ≤ 4 ^ p
  | 0 => Nat.le_refl _
  | p + 1 => by
    have h1 := cnt_bd hp p
    have h2 := op_le hp p
    show cntP (opP m s) p * (opP m s p).length ≤ _
    rw [Nat.pow_succ]
    exact Nat.mul_le_mul h1 h2
theorem cnt_bd16 {m s : List (List Int)} (hp : probB m s = true) {p : Nat} (h : p ≤ 16) : cntP (opP m s) p ≤ 4294967296 :=
  Nat.le_trans (cnt_bd hp p) (Nat.pow_le_pow_right (by decide) h)
theorem kn_bd {m s : List (List Int)} (hp : probB m s = true) : m.length * s.length ≤ 16 := by
  have hl := prob_len hp
  exact Nat.mul_le_mul (show m.length ≤ 4 by omega) (show s.length ≤ 4 by omega)
theorem countAlgorithms_d {m s : List (List Int)} (hp : probB m s = true) : Does Try.prog 47 [prA m s] (.imm (.int (algN m s))) := by
  have hl := prob_len hp
  have hkn := kn_bd hp
  refine spec_imm Try.func47 rfl Try.ntmps47 cfOK (fun _ _ => by kernel_rfl) rfl (Nat.le_of_ble_eq_true rfl) ?_
  intro M0 w0
  rw [Try.results47]
  refine amGo ?_
  refine awp_rounds (α := Nat) (fun i => [(8, true, .int i), (3, true, .int (cntP (opP m s) (i * s.length)))]) [1, 7] (fun _ => [.box [.b (.sl (.ii m)), .b (.sl (.ii s))]]) (fun i => i ≤ m.length) (fun i => m.length - i) 0 (by rw [Nat.zero_mul]; ((try simp only [xk]); (repeat (refine leK_cons ?_ ?_; first | (exact amE) | rotate_left)); (try exact leK_nil rfl); (all_goals (try (simp only [xr, simprocAttr]; try refine int_eq1 ?_))))) (Nat.zero_le _) fun i hi => ?_
  simp only [xr, simprocAttr]
  refine amGo ?_
  refine awp_cond amQ (fun hd => ?_) (fun hd => ?_)
  · have hd := of_decide_eq_true hd
    have hi' : i < m.length := by omega
    have hm := mulK (K := s.length) hi'
    refine amGo ?_
    refine awp_rounds (α := Nat) (fun r => [(13, true, .int r), (3, true, .int (cntP (opP m s) (i * s.length + r)))]) [1, 7, 8, 12] (fun _ => [.box [.b (.sl (.ii m)), .b (.sl (.ii s))]]) (fun r => r ≤ s.length) (fun r => s.length - r) 0 (by rw [Nat.add_zero]; ((try simp only [xk]); (repeat (refine leK_cons ?_ ?_; first | (exact amE) | rotate_left)); (try exact leK_nil rfl); (all_goals (try (simp only [xr, simprocAttr]; try refine int_eq1 ?_))))) (Nat.zero_le _) fun r hr => ?_
    have hc := cnt_bd16 hp (p := i * s.length + r) (by omega)
    simp only [xr, simprocAttr]
    refine amGo ?_
    refine awp_cond amQ (fun he => ?_) (fun he => ?_)
    · have he := of_decide_eq_true he
      have hr' : r < s.length := by omega
      have hc2 := cnt_bd16 hp (p := i * s.length + (r + 1)) (by omega)
      have e1 : cntP (opP m s) (i * s.length + (r + 1)) = cntP (opP m s) (i * s.length + r) * (srv s m.length r).length := by
        show cntP (opP m s) (i * s.length + r) * (opP m s (i * s.length + r)).length = _
        rw [op_cR i r hr']
        rfl
      have e2 : ((cntP (opP m s) (i * s.length + r) : Nat) : Int) * ((srv s m.length r).length : Nat) = (cntP (opP m s) (i * s.length + (r + 1)) : Nat) := by rw [e1, Int.natCast_mul]
      have i1 : I64 (((cntP (opP m s) (i * s.length + r) : Nat) : Int) * ((srv s m.length r).length : Nat)) := by rw [e2]; unfold I64; omega
      refine amGo ?_
      ((try refine Or.inl ?_); refine ⟨_, (served_d m s r hr' (prob_rows hp r hr') (by omega)), amF, ?_⟩; refine amC ?_)
      refine amGo ?_
      refine ⟨r + 1, by omega, by omega, .inl ?_⟩
      ((try simp only [xk]); (repeat (refine leK_cons ?_ ?_; first | (exact amE) | rotate_left)); (try exact leK_nil rfl); (all_goals (try (simp only [xr, simprocAttr]; try refine int_eq1 ?_))))
    · have he := of_decide_eq_false he
      obtain rfl : r = s.length := by omega
      have e3 : i * s.length + s.length = (i + 1) * s.length := by rw [Nat.succ_mul]
      refine amGo ?_
      refine ⟨i + 1, by omega, by omega, .inl ?_⟩
      rw [e3]
      ((try simp only [xk]); (repeat (refine leK_cons ?_ ?_; first | (exact amE) | rotate_left)); (try exact leK_nil rfl); (all_goals (try (simp only [xr, simprocAttr]; try refine int_eq1 ?_))))
  · have hd := of_decide_eq_false hd
    obtain rfl : i = m.length := by omega
    refine amGo ?_
    (simp only [xe, simprocAttr]; refine ⟨_, rfl, rfl, Imp.eq ?_⟩)
    rfl
end Go.Proofs.Ytlhdeofkhajigaa
/- All algorithms in order, and how many there are, on the machine: the reference's. Conditions: a problem that is right, with few algorithms. -/
set_option linter.all false
set_option linter.unusedSimpArgs false
set_option linter.unusedVariables false
namespace Go.Proofs.Ytlhdeofkhajigaa
open Go Go.RowKit Am

def uC (m s : List (List Int)) (r i : Nat) : Nat := prodN (fun r => cR m s r ^ m.length) r * cR m s r ^ i
theorem cR_le {m s : List (List Int)} (hp : probB m s = true) {r : Nat} (hr : r < s.length) : cR m s r ≤ 4 := by
  rw [← op_cR 0 r hr]
  exact op_le hp _
theorem prodN_le {c : Nat → Nat} {B : Nat} : ∀ k, (∀ r, r < k → c r ≤ B) → prodN c k ≤ B ^ k
  | 0, _ => Nat.le_refl _
  | k + 1, h => by
    have ih := prodN_le k fun r hr => h r (by omega)
    have h1 := h k (by omega)
    rw [prodN, Nat.pow_succ]
    exact Nat.mul_le_mul ih h1
theorem uC_bd {m s : List (List Int)} (hp : probB m s = true) {r i : Nat} (hr : r < s.length) (hi : i ≤ m.length) : uC m s r i ≤ 4294967296 := by
  have hl := prob_len hp
  have h1 := prodN_le (c := fun r => cR m s r ^ m.length) (B := 4 ^ m.length) r fun q hq => Nat.pow_le_pow_left (cR_le hp (by omega)) _
  have h2 : cR m s r ^ i ≤ 4 ^ i := Nat.pow_le_pow_left (cR_le hp hr) _
  have h3 : (4 ^ m.length) ^ r ≤ (4 ^ 4) ^ 3 := Nat.le_trans (Nat.pow_le_pow_left (Nat.pow_le_pow_right (by decide) (by omega)) r) (Nat.pow_le_pow_right (by decide) (by omega))
  have h4 : 4 ^ i ≤ 4 ^ 4 := Nat.pow_le_pow_right (by decide) (by omega)
  have h5 := Nat.mul_le_mul (Nat.le_trans h1 h3) (Nat.le_trans h2 h4)
  exact Nat.le_trans h5 (by decide)
theorem uC_next (m s : List (List Int)) (r : Nat) : uC m s r m.length = uC m s (r + 1) 0 := by
  unfold uC
  rw [prodN, Nat.pow_zero, Nat.mul_one]
theorem uC_all (m s : List (List Int)) : uC m s s.length 0 = algN m s := by
  unfold uC
  rw [Nat.pow_zero, Nat.mul_one, prodN_pow, algN_eq]
theorem uC_succ (m s : List (List Int)) (r i : Nat) : ((uC m s r (i + 1) : Nat) : Int) = (uC m s r i : Nat) * (cR m s r : Nat) := by
  rw [← Int.natCast_mul]
  unfold uC
  rw [Nat.pow_succ, Nat.mul_assoc]
set_option maxHeartbeats 1000000 in
theorem specCount_d {m s : List (List Int)} (hp : probB m s = true) : Does Try.prog 41 [prA m s] (.imm (.tup [.one (.b (.val (.int .i64 (algN m s : Nat)))), .one (.b (.val (.bool true)))])) := by
  have hl := prob_len hp
  refine spec_imm Try.func41 rfl Try.ntmps41 cfOK (fun _ _ => by kernel_rfl) rfl (Nat.le_of_ble_eq_true rfl) ?_
  intro M0 w0
  rw [Try.results41]
  refine amGo ?_
  ((try refine Or.inl ?_); refine ⟨_, (l8Good_d m s), .inl rfl, ?_⟩; refine amC ?_)
  rw [hp]
  refine amGo ?_
  refine awp_cond amQ (fun hz => ?_) (fun hz => ?_)
  · cases hz
  refine amGo ?_
  refine awp_rounds (α := Nat) (fun r => [(5, true, .int r), (4, true, .int (uC m s r 0 : Nat))]) [1] (fun _ => [.box [.b (.sl (.ii m)), .b (.sl (.ii s))]]) (fun r => r ≤ s.length) (fun r => s.length - r) 0 (by ((try simp only [xk]); (repeat (refine leK_cons ?_ ?_; first | (exact amE) | rotate_left)); (refine leK_nil ?_; exact (by rfl)); (all_goals (try (simp only [xr, simprocAttr]; try refine int_eq1 ?_))))) (Nat.zero_le _) fun r hr => ?_
  simp only [xr, simprocAttr]
  refine amGo ?_
  refine awp_cond amQ (fun hd => ?_) (fun hd => ?_)
  · have hd := of_decide_eq_true hd
    have hr' : r < s.length := by omega
    have hrow := prob_rows hp r hr'
    refine amGo ?_
    refine awp_rounds (α := Nat) (fun t => [(7, true, .int t), (6, true, .int ((srv s t r).length : Nat))]) [1, 4, 5] (fun _ => [.box [.b (.sl (.ii m)), .b (.sl (.ii s))]]) (fun t => t ≤ m.length ∧ (srv s t r).length ≤ t) (fun t => m.length - t) 0 (by ((try simp only [xk]); (repeat (refine leK_cons ?_ ?_; first | (exact amE) | rotate_left)); (refine leK_nil ?_; exact (by rfl)); (all_goals (try (simp only [xr, simprocAttr]; try refine int_eq1 ?_))))) ⟨Nat.zero_le _, Nat.le_refl _⟩ fun t ht => ?_
    obtain ⟨ht, htl⟩ := ht
    have hst := srv_step s t r
    unfold at2 at hst
    simp only [xr, simprocAttr]
    refine amGo ?_
    refine awp_cond amQ (fun he => ?_) (fun he => ?_)
    · have he := of_decide_eq_true he
      have ht' : t < m.length := by omega
      refine amGo ?_
      refine awp_cond amQ (fun hf => ?_) (fun hf => ?_)
      · have hf := of_decide_eq_true hf
        rw [if_pos hf] at hst
        have e1 : (srv s (t + 1) r).length = (srv s t r).length + 1 := by rw [hst]; simp
        refine amGo ?_
        refine ⟨t + 1, by omega, by omega, by omega, .inl ?_⟩
        ((try simp only [xk]); (repeat (refine leK_cons ?_ ?_; first | (exact amE) | rotate_left)); (refine leK_nil ?_; exact (by rfl)); (all_goals (try (simp only [xr, simprocAttr]; try refine int_eq1 ?_))))
      · have hf := of_decide_eq_false hf
        rw [if_neg hf] at hst
        have e1 : (srv s (t + 1) r).length = (srv s t r).length := by rw [hst]
        refine amGo ?_
        refine ⟨t + 1, by omega, by omega, by omega, .inl ?_⟩
        ((try simp only [xk]); (repeat (refine leK_cons ?_ ?_; first | (exact amE) | rotate_left)); (refine leK_nil ?_; exact (by rfl)); (all_goals (try (simp only [xr, simprocAttr]; try refine int_eq1 ?_))))
    · have he := of_decide_eq_false he
      obtain rfl : t = m.length := by omega
      refine amGo ?_
      refine awp_rounds (α := Nat) (fun i => [(8, true, .int i), (4, true, .int (uC m s r i : Nat))]) [1, 5, 6] (fun _ => [.box [.b (.sl (.ii m)), .b (.sl (.ii s))]]) (fun i => i ≤ m.length) (fun i => m.length - i) 0 (by ((try simp only [xk]); (repeat (refine leK_cons ?_ ?_; first | (exact amE) | rotate_left)); (refine leK_nil ?_; exact (by rfl)); (all_goals (try (simp only [xr, simprocAttr]; try refine int_eq1 ?_))))) (Nat.zero_le _) fun i hi => ?_
      have hu := uC_bd hp hr' hi
      simp only [xr, simprocAttr]
      refine amGo ?_
      refine awp_cond amQ (fun hg => ?_) (fun hg => ?_)
      · have hg := of_decide_eq_true hg
        have hu2 := uC_bd hp hr' (show i + 1 ≤ m.length by omega)
        have e2 := uC_succ m s r i
        have e3 : ((cR m s r : Nat) : Int) = ((srv s m.length r).length : Nat) := rfl
        rw [e3] at e2
        have i1 : I64 (((uC m s r i : Nat) : Int) * ((srv s m.length r).length : Nat)) := by rw [← e2]; unfold I64; omega
        have e4 := e2.symm
        refine amGo ?_
        refine ⟨i + 1, by omega, by omega, .inl ?_⟩
        ((try simp only [xk]); (repeat (refine leK_cons ?_ ?_; first | (exact amE) | rotate_left)); (refine leK_nil ?_; exact (by rfl)); (all_goals (try (simp only [xr, simprocAttr]; try refine int_eq1 ?_))))
      · have hg := of_decide_eq_false hg
        obtain rfl : i = m.length := by omega
        rw [uC_next]
        refine amGo ?_
        refine ⟨r + 1, by omega, by omega, .inl ?_⟩
        ((try simp only [xk]); (repeat (refine leK_cons ?_ ?_; first | (exact amE) | rotate_left)); (refine leK_nil ?_; exact (by rfl)); (all_goals (try (simp only [xr, simprocAttr]; try refine int_eq1 ?_))))
  · have hd := of_decide_eq_false hd
    obtain rfl : r = s.length := by omega
    rw [uC_all]
    refine amGo ?_
    (simp only [xe, simprocAttr]; refine ⟨[_, _], ⟨rfl, rfl, trivial⟩, rfl, Imp.eq ?_⟩)
    rfl
theorem lst_el {m s : List (List Int)} {p i : Nat} (hi : i < (lstP (opP m s) p).length) : ((lstP (opP m s) p).getD i []).length = p :=
  lstP_el _ _ _ (by rw [getD_in hi]; exact List.getElem_mem _)
abbrev exT (p : Nat) (o : List Int) (L : List (List Int)) : List (List Int) := L.flatMap fun l => o.map fun t => l ++ [t]
theorem exT_take {p : Nat} {o : List Int} {L : List (List Int)} {i : Nat} (hi : i < L.length) : exT p o (L.take (i + 1)) = exT p o (L.take i) ++ o.map fun t => L.getD i [] ++ [t] := by
  unfold exT
  rw [take_getD hi [], List.flatMap_append]
  simp
theorem exT_len {p : Nat} {o : List Int} {L : List (List Int)} : (exT p o L).length = L.length * o.length := flat_len fun l _ => by simp
set_option maxHeartbeats 2000000 in
theorem l9Algorithms_d {m s : List (List Int)} (hp : probB m s = true) (hn : algN m s ≤ 300) : Does Try.prog 43 [prA m s] (.imm (.sl (.iii ((lstP (opP m s) (m.length * s.length)).map (rowsP s.length m.length))))) := by
  have hl := prob_len hp
  have hkn := kn_bd hp
  have hcle : ∀ p, p ≤ m.length * s.length → cntP (opP m s) p ≤ 300 := fun p h => by
    have := cntP_le (op_pos hp) p (m.length * s.length - p)
    rw [show p + (m.length * s.length - p) = m.length * s.length by omega] at this
    exact Nat.le_trans this hn
  have enk : ((m.length : Nat) : Int) * (s.length : Nat) = (m.length * s.length : Nat) := by rw [Int.natCast_mul]
  have i0 : I64 (((m.length : Nat) : Int) * (s.length : Nat)) := by rw [enk]; unfold I64; omega
  refine spec_imm Try.func43 rfl Try.ntmps43 cfOK (fun _ _ => by kernel_rfl) rfl (Nat.le_of_ble_eq_true rfl) ?_
  intro M0 w0
  rw [Try.results43]
  refine amGo ?_
  (refine awp_frzT 2 rfl ?_; simp only [xz, simprocAttr])
  refine awp_rounds (α := Nat) (fun p => [(6, true, .int p), (5, true, .sl (.ii (lstP (opP m s) p)))]) [1, 3, 4] (fun _ => [.box [.b (.sl (.ii m)), .b (.sl (.ii s))], .gone, .gone]) (fun p => p ≤ m.length * s.length) (fun p => m.length * s.length - p) 0 (by ((try simp only [xk]); (repeat (refine leK_cons ?_ ?_; first | (exact amE) | rotate_left)); (refine leK_nil ?_; exact (by rfl)); (all_goals (try (simp only [xr, simprocAttr]; try refine int_eq1 ?_))))) (Nat.zero_le _) fun p hp' => ?_
  have hll := lstP_len (opP m s) p
  have hc1 := hcle p hp'
  simp only [xr, simprocAttr]
  refine amGo ?_
  rw [enk]
  refine awp_cond amQ (fun hd => ?_) (fun hd => ?_)
  · have hd := of_decide_eq_true hd
    have hp2 : p < m.length * s.length := by omega
    have hmod := Nat.mod_lt p (show 0 < s.length by omega)
    have emod : ((p : Nat) : Int) % (s.length : Nat) = (p % s.length : Nat) := by rw [Int.natCast_emod]
    have e5 : (((p : Nat) : Int) % (s.length : Nat)).toNat = p % s.length := by rw [emod, Int.toNat_natCast]
    have hm0 : 0 ≤ ((p : Nat) : Int) % (s.length : Nat) := by rw [emod]; exact Int.natCast_nonneg _
    have hm1 : ((p : Nat) : Int) % (s.length : Nat) < (s.length : Nat) := by rw [emod]; exact Int.ofNat_lt.2 hmod
    have hm2 : (((p : Nat) : Int) % (s.length : Nat)).toNat < s.length := by rw [e5]; exact hmod
    have hrow := prob_rows hp _ hmod
    rw [← e5] at hrow
    refine amGo ?_
    (refine awp_toT 3 3 [] rfl rfl rfl ?_; simp only [xu, simprocAttr])
    refine awp_rounds (α := Nat) (fun i => [(8, true, .int i)]) [1, 3, 4, 5, 6, 7] (fun i => [.box [.b (.sl (.ii m)), .b (.sl (.ii s))], .gone, .gone, .tree [29, 3] (.ii (exT p (opP m s p) ((lstP (opP m s) p).take i)))]) (fun i => i ≤ (lstP (opP m s) p).length) (fun i => (lstP (opP m s) p).length - i) 0 (by ((try simp only [xk]); (repeat (refine leK_cons ?_ ?_; first | (exact amE) | rotate_left)); (refine leK_nil ?_; exact (by rfl)); (all_goals (try (simp only [xr, simprocAttr]; try refine int_eq1 ?_))))) (Nat.zero_le _) fun i hi => ?_
    simp only [xr, simprocAttr]
    refine amGo ?_
    refine awp_cond amQ (fun he => ?_) (fun he => ?_)
    · have he := of_decide_eq_true he
      have hi' : i < (lstP (opP m s) p).length := by omega
      have hel := lst_el hi'
      refine amGo ?_
      refine awp_rounds (α := Nat) (fun t => [(9, true, .int t)]) [1, 3, 4, 5, 6, 7, 8] (fun t => [.box [.b (.sl (.ii m)), .b (.sl (.ii s))], .gone, .gone, .tree [29, 3] (.ii (exT p (opP m s p) ((lstP (opP m s) p).take i) ++ (srv s t (p % s.length)).map fun t => (lstP (opP m s) p).getD i [] ++ [t]))]) (fun t => t ≤ m.length ∧ (srv s t (p % s.length)).length ≤ t) (fun t => m.length - t) 0 (by ((try simp only [xk]); (repeat (refine leK_cons ?_ ?_; first | (exact amE) | rotate_left)); (refine leK_nil ?_; exact (by simp [srv])); (all_goals (try (simp only [xr, simprocAttr]; try refine int_eq1 ?_))))) ⟨Nat.zero_le _, Nat.le_refl _⟩ fun t ht => ?_
      obtain ⟨ht, htl⟩ := ht
      have hst := srv_step s t (p % s.length)
      unfold at2 at hst
      have hxl : (exT p (opP m s p) ((lstP (opP m s) p).take i) ++ (srv s t (p % s.length)).map fun t => (lstP (opP m s) p).getD i [] ++ [t]).length ≤ 2000 := by
        have h1 := exT_len (p := p) (o := opP m s p) (L := (lstP (opP m s) p).take i)
        have h2 : ((lstP (opP m s) p).take i).length * (opP m s p).length ≤ 300 * 4 := Nat.mul_le_mul (by rw [List.length_take]; omega) (op_le hp p)
        rw [List.length_append, List.length_map]
        omega
      generalize hX : exT p (opP m s p) ((lstP (opP m s) p).take i) = X at *
      simp only [xr, simprocAttr]
      refine amGo ?_
      refine awp_cond amQ (fun hf => ?_) (fun hf => ?_)
      · have hf := of_decide_eq_true hf
        have ht' : t < m.length := by omega
        refine amGo ?_
        rw [e5]
        refine awp_cond amQ (fun hg => ?_) (fun hg => ?_)
        · have hg := of_decide_eq_true hg
          rw [if_pos hg] at hst
          have e1 : (srv s (t + 1) (p % s.length)).length = (srv s t (p % s.length)).length + 1 := by rw [hst]; simp
          refine amGo ?_
          refine ⟨t + 1, by omega, by omega, by omega, .inr ⟨4, Nat.le_of_ble_eq_true rfl, leT_of ?_ rfl rfl rfl⟩⟩
          ((try simp only [xk]); (repeat (refine leK_cons ?_ ?_; first | (exact amE) | rotate_left)); (refine leK_nil ?_; exact (by rw [hst, List.map_append, ← List.append_assoc] <;> rfl)); (all_goals (try (simp only [xr, simprocAttr]; try refine int_eq1 ?_))))
        · have hg := of_decide_eq_false hg
          rw [if_neg hg] at hst
          have e1 : (srv s (t + 1) (p % s.length)).length = (srv s t (p % s.length)).length := by rw [hst]
          refine amGo ?_
          refine ⟨t + 1, by omega, by omega, by omega, .inl ?_⟩
          ((try simp only [xk]); (repeat (refine leK_cons ?_ ?_; first | (exact amE) | rotate_left)); (refine leK_nil ?_; exact (by rw [hst] <;> rfl)); (all_goals (try (simp only [xr, simprocAttr]; try refine int_eq1 ?_))))
      · have hf := of_decide_eq_false hf
        obtain rfl : t = m.length := by omega
        have hnx := exT_take (p := p) (o := opP m s p) hi'
        rw [hX] at hnx
        refine amGo ?_
        refine ⟨i + 1, by omega, by omega, .inl ?_⟩
        ((try simp only [xk]); (repeat (refine leK_cons ?_ ?_; first | (exact amE) | rotate_left)); (refine leK_nil ?_; exact (by rw [hnx] <;> rfl)); (all_goals (try (simp only [xr, simprocAttr]; try refine int_eq1 ?_))))
    · have he := of_decide_eq_false he
      obtain rfl : i = (lstP (opP m s) p).length := by omega
      rw [List.take_length]
      refine amB ?_
      (refine awp_frzT 3 rfl ?_; simp only [xz, simprocAttr])
      refine amGo ?_
      refine ⟨p + 1, by omega, by omega, .inr ⟨3, Nat.le_of_ble_eq_true rfl, leT_of ?_ rfl rfl rfl⟩⟩
      ((try simp only [xk]); (repeat (refine leK_cons ?_ ?_; first | (exact amE) | rotate_left)); (refine leK_nil ?_; exact (by rfl)); (all_goals (try (simp only [xr, simprocAttr]; try refine int_eq1 ?_))))
  · have hd := of_decide_eq_false hd
    obtain rfl : p = m.length * s.length := by omega
    refine amGo ?_
    refine awp_rounds (α := Nat) (fun i => [(11, true, .int i)]) [3, 4, 5, 10] (fun i => [.box [.b (.sl (.ii m)), .b (.sl (.ii s))], .gone, .gone, .row 22 (.iii (((lstP (opP m s) (m.length * s.length)).take i).map (rowsP s.length m.length)))]) (fun i => i ≤ (lstP (opP m s) (m.length * s.length)).length) (fun i => (lstP (opP m s) (m.length * s.length)).length - i) 0 (by ((try simp only [xk]); (repeat (refine leK_cons ?_ ?_; first | (exact amE) | rotate_left)); (refine leK_nil ?_; exact (by rfl)); (all_goals (try (simp only [xr, simprocAttr]; try refine int_eq1 ?_))))) (Nat.zero_le _) fun i hi => ?_
    have htl : (((lstP (opP m s) (m.length * s.length)).take i).map (rowsP s.length m.length)).length ≤ 300 := by rw [List.length_map, List.length_take]; omega
    simp only [xr, simprocAttr]
    refine amGo ?_
    refine awp_cond amQ (fun he => ?_) (fun he => ?_)
    · have he := of_decide_eq_true he
      have hi' : i < (lstP (opP m s) (m.length * s.length)).length := by omega
      have hel := lst_el hi'
      have htk := take_getD hi' []
      obtain ⟨li, hli⟩ : ∃ li, li = (lstP (opP m s) (m.length * s.length)).getD i [] := ⟨_, rfl⟩
      rw [← hli] at hel htk
      refine amGo ?_
      refine awp_rounds (α := Nat) (fun q => [(13, true, .int q)]) [3, 4, 5, 10, 11, 12] (fun q => [.box [.b (.sl (.ii m)), .b (.sl (.ii s))], .gone, .gone, .row 22 (.iii (((lstP (opP m s) (m.length * s.length)).take i).map (rowsP s.length m.length))), .row 29 (.ii ((rowsP s.length m.length li).take q))]) (fun q => q ≤ m.length) (fun q => m.length - q) 0 (by ((try simp only [xk]); (repeat (refine leK_cons ?_ ?_; first | (exact amE) | rotate_left)); (refine leK_nil ?_; exact (by rfl)); (all_goals (try (simp only [xr, simprocAttr]; try refine int_eq1 ?_))))) (Nat.zero_le _) fun q hq => ?_
      have hql : ((rowsP s.length m.length li).take q).length ≤ 4 := by rw [List.length_take]; omega
      simp only [xr, simprocAttr]
      refine amGo ?_
      refine awp_cond amQ (fun hf => ?_) (fun hf => ?_)
      · have hf := of_decide_eq_true hf
        have hq' : q < m.length := by omega
        have hmk := mulK (K := s.length) hq'
        have e6 : ((q : Nat) : Int) * (s.length : Nat) = (q * s.length : Nat) := by rw [Int.natCast_mul]
        have e7 : (((q : Nat) : Int) + 1) * (s.length : Nat) = ((q + 1) * s.length : Nat) := by rw [Int.natCast_mul]; rfl
        have e8 : (q + 1) * s.length = q * s.length + s.length := Nat.succ_mul _ _
        have i1 : I64 (((q : Nat) : Int) * (s.length : Nat)) := by rw [e6]; unfold I64; omega
        have i2 : I64 ((((q : Nat) : Int) + 1) * (s.length : Nat)) := by rw [e7]; unfold I64; omega
        have j1 : 0 ≤ ((q : Nat) : Int) * (s.length : Nat) := by rw [e6]; omega
        have j2 : ((q : Nat) : Int) * (s.length : Nat) ≤ (((q : Nat) : Int) + 1) * (s.length : Nat) := by rw [e6, e7]; omega
        have j3 : (((q : Nat) : Int) + 1) * (s.length : Nat) ≤ (li.length : Nat) := by rw [e7]; omega
        have j4 := j3
        rw [hli] at j4
        have e9 : (li.take ((q + 1) * s.length)).drop (q * s.length) = (rowsP s.length m.length li).getD q [] := by
          rw [rowsP_row hq', List.drop_take]
          congr 1
          omega
        have htq := take_getD (rs := rowsP s.length m.length li) (k := q) (by rw [rowsP_len]; exact hq') []
        refine amGo ?_
        rw [show (((q : Nat) : Int) * (s.length : Nat)).toNat = q * s.length by rw [e6, Int.toNat_natCast], show ((((q : Nat) : Int) + 1) * (s.length : Nat)).toNat = (q + 1) * s.length by rw [e7, Int.toNat_natCast], ← hli, e9]
        refine ⟨q + 1, by omega, by omega, .inl ?_⟩
        ((try simp only [xk]); (repeat (refine leK_cons ?_ ?_; first | (exact amE) | rotate_left)); (refine leK_nil ?_; exact (by rw [htq] <;> rfl)); (all_goals (try (simp only [xr, simprocAttr]; try refine int_eq1 ?_))))
      · have hf := of_decide_eq_false hf
        obtain rfl : q = m.length := by omega
        rw [show (rowsP s.length m.length li).take m.length = rowsP s.length m.length li from List.take_of_length_le (by rw [rowsP_len]; omega)]
        refine amB ?_
        (refine awp_frz 4 rfl ?_; simp only [xz, simprocAttr])
        refine amGo ?_
        refine ⟨i + 1, by omega, by omega, .inr ⟨4, Nat.le_of_ble_eq_true rfl, leT_of ?_ rfl rfl rfl⟩⟩
        ((try simp only [xk]); (repeat (refine leK_cons ?_ ?_; first | (exact amE) | rotate_left)); (refine leK_nil ?_; exact (by rw [htk, List.map_append] <;> rfl)); (all_goals (try (simp only [xr, simprocAttr]; try refine int_eq1 ?_))))
    · have he := of_decide_eq_false he
      obtain rfl : i = (lstP (opP m s) (m.length * s.length)).length := by omega
      rw [List.take_length]
      refine amB ?_
      (refine awp_frz 3 rfl ?_; simp only [xz, simprocAttr])
      refine amGo ?_
      (simp only [xe, simprocAttr]; refine ⟨_, rfl, rfl, Imp.eq ?_⟩)
      rfl
end Go.Proofs.Ytlhdeofkhajigaa
