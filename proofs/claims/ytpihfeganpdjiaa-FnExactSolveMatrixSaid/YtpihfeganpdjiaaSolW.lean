/- Solved matrices by the reference, on the machine. Conditions: none. -/
import Derived.Test.YtpihfeganpdjiaaSOB
import Derived.Test.YtpihfeganpdjiaaMatrixS
import Derived.Test.YtpihfeganpdjiaaME
set_option linter.all false
set_option linter.unusedSimpArgs false
set_option linter.unusedVariables false
namespace Go.Proofs.Ytpihfeganpdjiaa
open Go Go.RowKit Am

theorem l11Matrix_d (m : List (List Int)) : Does Try.prog 15 [.sl (.ii m)] (.imm (.bool (matB m))) :=
  does_val (fun _ _ => by kernel_rfl) fun M w us hm ha => by
    obtain ⟨u, us', rfl, h1, h2⟩ := args_inv ha
    obtain rfl := args_inv0 h2
    exact (l11Matrix_any w _ m (sl_of_sii hm h1)).mono fun e w' ⟨h5, h6⟩ => ⟨h5, h6.below _⟩
theorem matB_q {m : List (List Int)} (h : matB m = true) : MatQ m (headLen m) := by
  unfold matB at h
  rw [Bool.and_eq_true] at h
  obtain ⟨h1, h2⟩ := h
  have h1 : (1 : Int) ≤ m.length ∧ (m.length : Int) ≤ 3 := by simpa [rng] using h1
  have hrow : ∀ r ∈ m, rowB (headLen m) r = true := List.all_eq_true.1 h2
  have hr : ∀ r ∈ m, r.length = headLen m ∧ 1 ≤ r.length ∧ r.length ≤ 3 ∧ ∀ x ∈ r, 0 ≤ x ∧ x ≤ 40 := fun r hr => by
    have h3 := hrow r hr
    unfold rowB areInB allIn at h3
    simp [rng] at h3
    refine ⟨h3.1, by omega, by omega, fun x hx => ?_⟩
    have := h3.2.2 x hx
    omega
  have h0 := hr m[0] (List.getElem_mem (by omega))
  exact ⟨by omega, by omega, by omega, by omega, fun r h3 => (hr r h3).1, fun r h3 x hx => by have := (hr r h3).2.2.2 x hx; omega⟩
theorem cols_q {m : List (List Int)} {c : Nat} (h : MatQ m c) : MatQ (colsOf c m) m.length := by
  refine ⟨by rw [colsOf_len]; exact h.c0, by rw [colsOf_len]; exact h.c3, h.l0, h.l3, fun r hr => ?_, fun r hr x hx => ?_⟩
  · obtain ⟨k, _, rfl⟩ := List.mem_map.1 hr
    rw [colOf_len]
  · obtain ⟨k, _, rfl⟩ := List.mem_map.1 hr
    obtain ⟨r, hr2, rfl⟩ := List.mem_map.1 hx
    rw [List.getD_eq_getElem?_getD]
    cases h3 : r[k]? with
    | none => simp
    | some y => have := h.bd r hr2 y (List.mem_of_getElem? h3); simpa using this
theorem bdl_of {B : Int} {xs : List Int} (hB : 0 ≤ B) (h : ∀ x ∈ xs, -B ≤ x ∧ x ≤ B) : BdL B xs := fun k => by
  rw [List.getD_eq_getElem?_getD]
  cases h3 : xs[k]? with
  | none => simp; omega
  | some y => simpa using h y (List.mem_of_getElem? h3)
theorem sgF_bd (d : Int) : -1 ≤ sgF d ∧ sgF d ≤ 1 := by unfold sgF; split <;> omega
theorem solv_bd {n : Nat} {m : List (List Int)} (h3 : n ≤ 3) (hm : SqM n 40 m) : BdL 1000000000 (solvL n m) := by
  have hS := sysS_sq hm
  have hD := dBd_le (n := n + 1) (by omega)
  have key : ∀ x : Int, -(dBd 80 (n + 1)) ≤ x ∧ x ≤ dBd 80 (n + 1) → -1000000000 ≤ sgF (detL (n + 1) (sysS n m)) * x ∧ sgF (detL (n + 1) (sysS n m)) * x ≤ 1000000000 := fun x hx => by
    have := mul_abs (sgF_bd (detL (n + 1) (sysS n m))) hx
    omega
  refine bdl_of (by decide) fun x hx => ?_
  unfold solvL at hx
  split at hx
  · simp at hx
  · rcases List.mem_append.1 hx with h1 | h1
    · unfold solK at h1
      obtain ⟨k, _, rfl⟩ := List.mem_map.1 h1
      exact key _ (det_bd (by decide) (withI_sq hS))
    · rw [List.mem_singleton] at h1
      subst h1
      exact key _ (det_bd (by decide) hS)
theorem solv_len (n : Nat) (m : List (List Int)) : solvL n m = [] ∨ (solvL n m).length = n + 2 := by
  unfold solvL
  split
  · exact .inl rfl
  · right
    rw [List.length_append, solK_len]
    rfl
theorem solv_den {n : Nat} {m : List (List Int)} (h : 0 < (solvL n m).length) : 1 ≤ (solvL n m).getD (n + 1) 0 := by
  unfold solvL at h ⊢
  split at h
  · simp at h
  · rename_i hd
    rw [if_neg hd, getD_inQ (by rw [List.length_append, solK_len]; exact Nat.lt_succ_self _)]
    rw [List.getElem_append_right (by rw [solK_len]; exact Nat.le_refl _)]
    simp only [List.getElem_singleton]
    unfold sgF
    split <;> omega
theorem fit_pos {m : List (List Int)} {c : Nat} {rs one : List Int} {g : Int} (h : fitB m c rs one g = true) : 0 < one.length := by
  unfold fitB at h
  rw [Bool.and_eq_true] at h
  exact of_decide_eq_true h.1
/-! ### the search -/
abbrev SolR := List (List Int) × List (List Int) × (Int × Int)
def solOne (m : List (List Int)) (k : Nat) (rs cs : List Int) : List Int := solvL k (partL m rs cs)
def solTwo (m : List (List Int)) (c k : Nat) (rs cs : List Int) : List Int := solvL k (partL (colsOf c m) cs rs)
def hitB (m : List (List Int)) (c k : Nat) (rs cs : List Int) : Bool := fitB m c rs (solOne m k rs cs) 1 && fitB (colsOf c m) m.length cs (solTwo m c k rs cs) (-1)
def solV (m : List (List Int)) (c k : Nat) (rs cs : List Int) : SolR :=
  ((spL m.length (solOne m k rs cs) rs).map fun w => frQ (mkFr w ((solOne m k rs cs).getD (k + 1) 0)), (spL c (solTwo m c k rs cs) cs).map fun w => frQ (mkFr w ((solTwo m c k rs cs).getD (k + 1) 0)), mkFr ((solOne m k rs cs).getD k 0) ((solOne m k rs cs).getD (k + 1) 0))
def solHit (m : List (List Int)) (c k : Nat) (rs cs : List Int) : Option SolR := if hitB m c k rs cs = true then some (solV m c k rs cs) else none
def solRow (m : List (List Int)) (c k : Nat) (rs : List Int) : Option SolR := (chs c k).findSome? (solHit m c k rs)
def solMany (m : List (List Int)) (c k : Nat) : Option SolR := (chs m.length k).findSome? (solRow m c k)
def manyQ : List Nat := [0, 1, 2]
theorem manyQ_len : manyQ.length = 3 := rfl
def solAll (m : List (List Int)) (c : Nat) : Option SolR := manyQ.findSome? fun q => solMany m c (q + 1)
theorem fsq_next {α β : Type} {f : α → Option β} {xs : List α} {d : α} {k : Nat} (h : (xs.take k).findSome? f = none) (hk : k < xs.length) (hf : f (xs.getD k d) = none) : (xs.take (k + 1)).findSome? f = none := by
  rw [take_getD hk d, List.findSome?_append, h]
  simp only [List.findSome?_cons, hf]
  rfl
theorem fsq_hit {α β : Type} {f : α → Option β} {xs : List α} {d : α} {k : Nat} {y : β} (h : (xs.take k).findSome? f = none) (hk : k < xs.length) (hf : f (xs.getD k d) = some y) : xs.findSome? f = some y := by
  have h1 : (xs.take (k + 1)).findSome? f = some y := by
    rw [take_getD hk d, List.findSome?_append, h]
    simp only [List.findSome?_cons, hf]
    rfl
  rw [← List.take_append_drop (k + 1) xs, List.findSome?_append, h1]
  rfl
theorem fsq_all {α β : Type} {f : α → Option β} {xs : List α} (h : (xs.take xs.length).findSome? f = none) : xs.findSome? f = none := by rwa [List.take_length] at h
def sX (r : Option SolR) : List (List Int) := match r with | none => [] | some x => x.1
def sY (r : Option SolR) : List (List Int) := match r with | none => [] | some x => x.2.1
def sV (r : Option SolR) : Int × Int := match r with | none => (0, 0) | some x => x.2.2
def smB (m : List (List Int)) : Bool := matB m && (solAll m (headLen m)).isSome
def smR (m : List (List Int)) : Option SolR := if matB m = true then solAll m (headLen m) else none
abbrev smT (r : Option SolR) : AV := .tup [.one (.b (.sl (.k 2 (sX r)))), .one (.b (.sl (.k 2 (sY r)))), frT (sV r), blT r.isSome]
set_option maxRecDepth 8000 in
set_option maxHeartbeats 8000000 in
theorem spec_SolveMatrix_d (m : List (List Int)) : Does Try.prog 5 [.sl (.ii m)] (.imm (smT (smR m))) := by
  refine spec_imm Try.func5 rfl Try.ntmps5 cfOK (fun _ _ => by kernel_rfl) rfl (Nat.le_of_ble_eq_true rfl) ?_
  intro M0 w0
  rw [Try.results5]
  (repeat (first | refine g1 ?_ | refine g2 ?_ | ((first | refine g3 ?_ | refine g4 ?_ | refine g5 ?_); try simp only [xq, simprocAttr]) | ((first | refine g6 ?_ | refine g7 ?_); simp only [xr, simprocAttr]; repeat (guard_target =~ _ ∧ _; refine ⟨by first | trivial | (unfold I64; omega) | omega | (simp <;> omega) | (intros; omega), ?_⟩))))
  ((try refine Or.inl ?_); refine ⟨_, (l11Matrix_d m), .inl rfl, ?_⟩; (try simp only [xr, simprocAttr]); repeat (guard_target =~ _ ∧ _; refine ⟨by first | trivial | (unfold I64; omega) | omega | (simp <;> omega) | (intros; omega), ?_⟩))
  (repeat (first | refine g1 ?_ | refine g2 ?_ | ((first | refine g3 ?_ | refine g4 ?_ | refine g5 ?_); try simp only [xq, simprocAttr]) | ((first | refine g6 ?_ | refine g7 ?_); simp only [xr, simprocAttr]; repeat (guard_target =~ _ ∧ _; refine ⟨by first | trivial | (unfold I64; omega) | omega | (simp <;> omega) | (intros; omega), ?_⟩))))
  refine awp_cond (by first | rfl | (simp only [xr, simprocAttr]; rfl)) (fun hc => ?_) (fun hc => ?_)
  · have hc : matB m = false := by simpa using hc
    have hr : smR m = none := by unfold smR; rw [hc]; rfl
    rw [hr]
    (repeat (first | refine g1 ?_ | refine g2 ?_ | ((first | refine g3 ?_ | refine g4 ?_); try simp only [xq, simprocAttr]) | ((first | refine g6 ?_ | refine g7 ?_); simp only [xr, simprocAttr]; repeat (guard_target =~ _ ∧ _; refine ⟨by first | trivial | (unfold I64; omega) | omega | (simp <;> omega) | (intros; omega), ?_⟩))))
    (refine awp_frz 1 rfl ?_; simp only [xz, simprocAttr])
    (refine awp_frz 2 rfl ?_; simp only [xz, simprocAttr])
    (repeat (first | refine g1 ?_ | refine g2 ?_ | ((first | refine g3 ?_ | refine g4 ?_ | refine g5 ?_); try simp only [xq, simprocAttr]) | ((first | refine g6 ?_ | refine g7 ?_); simp only [xr, simprocAttr]; repeat (guard_target =~ _ ∧ _; refine ⟨by first | trivial | (unfold I64; omega) | omega | (simp <;> omega) | (intros; omega), ?_⟩))))
    (simp only [xec, simprocAttr]; refine ⟨[_, _, _, _], ⟨rfl, rfl, ⟨by simp only [xr, simprocAttr] <;> (and_intros <;> first | trivial | (unfold I64; omega) | omega | (simp <;> omega) | (intros; omega)), rfl⟩, rfl, trivial⟩, rfl, Imp.eq ?_⟩)
    all_goals rfl
  have hc : matB m = true := by simpa using hc
  have hq := matB_q hc
  have hr : smR m = solAll m (headLen m) := by unfold smR; rw [if_pos hc]
  rw [hr]
  obtain ⟨c, hce⟩ : ∃ c, headLen m = c := ⟨_, rfl⟩
  rw [hce] at hq ⊢
  have hq2 := cols_q hq
  have hl0 := hq.l0
  have hl3 := hq.l3
  have hc0 := hq.c0
  have hc3 := hq.c3
  have hcl := colsOf_len c m
  (repeat (first | refine g1 ?_ | refine g2 ?_ | ((first | refine g3 ?_ | refine g4 ?_ | refine g5 ?_); try simp only [xq, simprocAttr]) | ((first | refine g6 ?_ | refine g7 ?_); simp only [xr, simprocAttr]; repeat (guard_target =~ _ ∧ _; refine ⟨by first | trivial | (unfold I64; omega) | omega | (simp <;> omega) | (intros; omega), ?_⟩))))
  ((try refine Or.inl ?_); refine ⟨_, (l11Turned_d m c hl0 (by omega) (by omega) hq.row), .inr (by and_intros <;> first | rfl | (simp; done)), ?_⟩; (try simp only [xr, simprocAttr]); repeat (guard_target =~ _ ∧ _; refine ⟨by first | trivial | (unfold I64; omega) | omega | (simp <;> omega) | (intros; omega), ?_⟩))
  (repeat (first | refine g1 ?_ | refine g2 ?_ | ((first | refine g3 ?_ | refine g4 ?_ | refine g5 ?_); try simp only [xq, simprocAttr]) | ((first | refine g6 ?_ | refine g7 ?_); simp only [xr, simprocAttr]; repeat (guard_target =~ _ ∧ _; refine ⟨by first | trivial | (unfold I64; omega) | omega | (simp <;> omega) | (intros; omega), ?_⟩))))
  refine awp_rounds (α := Nat) (fun q => [(7, true, .int ((q : Int) + 1))]) [0, 4, 6] (fun q => [.box [.b (.val (.int .i64 0)), .b (.val (.int .i64 0))]]) (fun q => q ≤ 3 ∧ (manyQ.take q).findSome? (fun q => solMany m c (q + 1)) = none) (fun q => 3 - q) 0 (by ((try simp only [xk]); (repeat (refine leK_cons ?_ ?_; first | (focus (first | rfl | (simp only [xr, simprocAttr]; done) | (simp only [xr, simprocAttr]; refine int_eq1 ?_; first | trivial | (unfold I64; omega) | omega | (simp <;> omega) | (intros; omega)))) | rotate_left)); (refine leK_nil ?_; exact (by rfl)); (all_goals (try (simp only [xr, simprocAttr]; try refine int_eq1 ?_))))) ⟨Nat.zero_le _, rfl⟩ fun q ⟨hq3, hqn⟩ => ?_
  simp only [xr, simprocAttr]
  (repeat (first | refine g1 ?_ | refine g2 ?_ | ((first | refine g3 ?_ | refine g4 ?_ | refine g5 ?_); try simp only [xq, simprocAttr]) | ((first | refine g6 ?_ | refine g7 ?_); simp only [xr, simprocAttr]; repeat (guard_target =~ _ ∧ _; refine ⟨by first | trivial | (unfold I64; omega) | omega | (simp <;> omega) | (intros; omega), ?_⟩))))
  refine awp_cond (by first | rfl | (simp only [xr, simprocAttr]; rfl)) (fun hd => ?_) (fun hd => ?_)
  · have hd := of_decide_eq_true hd
    have hq' : q < 3 := by omega
    obtain ⟨k, hk⟩ : ∃ k, q + 1 = k := ⟨_, rfl⟩
    have hk4 : k < 4 := by omega
    rw [show ((q : Int) + 1) = (k : Int) by omega]
    have hL1 := chs_len m.length (by omega) k hk4
    have hL2 := chs_len c (by omega) k hk4
    (repeat (first | refine g1 ?_ | refine g2 ?_ | ((first | refine g3 ?_ | refine g4 ?_ | refine g5 ?_); try simp only [xq, simprocAttr]) | ((first | refine g6 ?_ | refine g7 ?_); simp only [xr, simprocAttr]; repeat (guard_target =~ _ ∧ _; refine ⟨by first | trivial | (unfold I64; omega) | omega | (simp <;> omega) | (intros; omega), ?_⟩))))
    ((try refine Or.inl ?_); refine ⟨_, (l11Choices_d m.length (by omega) k hk4), .inr (by and_intros <;> first | rfl | (simp; done)), ?_⟩; (try simp only [xr, simprocAttr]); repeat (guard_target =~ _ ∧ _; refine ⟨by first | trivial | (unfold I64; omega) | omega | (simp <;> omega) | (intros; omega), ?_⟩))
    (repeat (first | refine g1 ?_ | refine g2 ?_ | ((first | refine g3 ?_ | refine g4 ?_ | refine g5 ?_); try simp only [xq, simprocAttr]) | ((first | refine g6 ?_ | refine g7 ?_); simp only [xr, simprocAttr]; repeat (guard_target =~ _ ∧ _; refine ⟨by first | trivial | (unfold I64; omega) | omega | (simp <;> omega) | (intros; omega), ?_⟩))))
    rw [hcl]
    ((try refine Or.inl ?_); refine ⟨_, (l11Choices_d c (by omega) k hk4), .inr (by and_intros <;> first | rfl | (simp; done)), ?_⟩; (try simp only [xr, simprocAttr]); repeat (guard_target =~ _ ∧ _; refine ⟨by first | trivial | (unfold I64; omega) | omega | (simp <;> omega) | (intros; omega), ?_⟩))
    (repeat (first | refine g1 ?_ | refine g2 ?_ | ((first | refine g3 ?_ | refine g4 ?_ | refine g5 ?_); try simp only [xq, simprocAttr]) | ((first | refine g6 ?_ | refine g7 ?_); simp only [xr, simprocAttr]; repeat (guard_target =~ _ ∧ _; refine ⟨by first | trivial | (unfold I64; omega) | omega | (simp <;> omega) | (intros; omega), ?_⟩))))
    refine awp_rounds (α := Nat) (fun i => [(10, true, .int i)]) [0, 4, 6, 7, 8, 9] (fun i => [.box [.b (.val (.int .i64 0)), .b (.val (.int .i64 0))]]) (fun i => i ≤ (chs m.length k).length ∧ ((chs m.length k).take i).findSome? (solRow m c k) = none) (fun i => (chs m.length k).length - i) 0 (by ((try simp only [xk]); (repeat (refine leK_cons ?_ ?_; first | (focus (first | rfl | (simp only [xr, simprocAttr]; done) | (simp only [xr, simprocAttr]; refine int_eq1 ?_; first | trivial | (unfold I64; omega) | omega | (simp <;> omega) | (intros; omega)))) | rotate_left)); (refine leK_nil ?_; exact (by rfl)); (all_goals (try (simp only [xr, simprocAttr]; try refine int_eq1 ?_))))) ⟨Nat.zero_le _, rfl⟩ fun i ⟨hi, hin⟩ => ?_
    simp only [xr, simprocAttr]
    (repeat (first | refine g1 ?_ | refine g2 ?_ | ((first | refine g3 ?_ | refine g4 ?_ | refine g5 ?_); try simp only [xq, simprocAttr]) | ((first | refine g6 ?_ | refine g7 ?_); simp only [xr, simprocAttr]; repeat (guard_target =~ _ ∧ _; refine ⟨by first | trivial | (unfold I64; omega) | omega | (simp <;> omega) | (intros; omega), ?_⟩))))
    refine awp_cond (by first | rfl | (simp only [xr, simprocAttr]; rfl)) (fun he => ?_) (fun he => ?_)
    · have he := of_decide_eq_true he
      have hi' : i < (chs m.length k).length := by omega
      obtain ⟨rs, hrs⟩ : ∃ rs, (chs m.length k).getD i [] = rs := ⟨_, rfl⟩
      have hrp : PlQ rs k m.length := chs_pl (by omega) hk4 (by rw [← hrs, getD_inQ hi']; exact List.getElem_mem _)
      have hrl := hrp.len
      (repeat (first | refine g1 ?_ | refine g2 ?_ | ((first | refine g3 ?_ | refine g4 ?_ | refine g5 ?_); try simp only [xq, simprocAttr]) | ((first | refine g6 ?_ | refine g7 ?_); simp only [xr, simprocAttr]; repeat (guard_target =~ _ ∧ _; refine ⟨by first | trivial | (unfold I64; omega) | omega | (simp <;> omega) | (intros; omega), ?_⟩))))
      refine awp_rounds (α := Nat) (fun j => [(11, true, .int j)]) [0, 4, 6, 7, 8, 9, 10] (fun j => [.box [.b (.val (.int .i64 0)), .b (.val (.int .i64 0))]]) (fun j => j ≤ (chs c k).length ∧ ((chs c k).take j).findSome? (solHit m c k rs) = none) (fun j => (chs c k).length - j) 0 (by ((try simp only [xk]); (repeat (refine leK_cons ?_ ?_; first | (focus (first | rfl | (simp only [xr, simprocAttr]; done) | (simp only [xr, simprocAttr]; refine int_eq1 ?_; first | trivial | (unfold I64; omega) | omega | (simp <;> omega) | (intros; omega)))) | rotate_left)); (refine leK_nil ?_; exact (by rfl)); (all_goals (try (simp only [xr, simprocAttr]; try refine int_eq1 ?_))))) ⟨Nat.zero_le _, rfl⟩ fun j ⟨hj, hjn⟩ => ?_
      simp only [xr, simprocAttr]
      (repeat (first | refine g1 ?_ | refine g2 ?_ | ((first | refine g3 ?_ | refine g4 ?_ | refine g5 ?_); try simp only [xq, simprocAttr]) | ((first | refine g6 ?_ | refine g7 ?_); simp only [xr, simprocAttr]; repeat (guard_target =~ _ ∧ _; refine ⟨by first | trivial | (unfold I64; omega) | omega | (simp <;> omega) | (intros; omega), ?_⟩))))
      refine awp_cond (by first | rfl | (simp only [xr, simprocAttr]; rfl)) (fun hf => ?_) (fun hf => ?_)
      · have hf := of_decide_eq_true hf
        have hj' : j < (chs c k).length := by omega
        obtain ⟨cs, hcs⟩ : ∃ cs, (chs c k).getD j [] = cs := ⟨_, rfl⟩
        have hcp : PlQ cs k c := chs_pl (by omega) hk4 (by rw [← hcs, getD_inQ hj']; exact List.getElem_mem _)
        have hcpl := hcp.len
        have hp1 := part_sq hq hrl hcpl
        have hp2 := part_sq hq2 hcpl hrl
        have ho1 := solv_len k (partL m rs cs)
        have ho2 := solv_len k (partL (colsOf c m) cs rs)
        have hb1 := solv_bd (by omega) hp1
        have hb2 := solv_bd (by omega) hp2
        have hd1 := solv_den (n := k) (m := partL m rs cs)
        have hd2 := solv_den (n := k) (m := partL (colsOf c m) cs rs)
        have hcp2 : PlQ cs k (colsOf c m).length := by rw [hcl]; exact hcp
        (repeat (first | refine g1 ?_ | refine g2 ?_ | ((first | refine g3 ?_ | refine g4 ?_ | refine g5 ?_); try simp only [xq, simprocAttr]) | ((first | refine g6 ?_ | refine g7 ?_); simp only [xr, simprocAttr]; repeat (guard_target =~ _ ∧ _; refine ⟨by first | trivial | (unfold I64; omega) | omega | (simp <;> omega) | (intros; omega), ?_⟩))))
        rw [hrs, hcs]
        ((try refine Or.inl ?_); refine ⟨_, (l11Part_d m rs cs hq hrp hcp (by omega) (by omega)), .inr (by and_intros <;> first | rfl | (simp; done)), ?_⟩; (try simp only [xr, simprocAttr]); repeat (guard_target =~ _ ∧ _; refine ⟨by first | trivial | (unfold I64; omega) | omega | (simp <;> omega) | (intros; omega), ?_⟩))
        (repeat (first | refine g1 ?_ | refine g2 ?_ | ((first | refine g3 ?_ | refine g4 ?_ | refine g5 ?_); try simp only [xq, simprocAttr]) | ((first | refine g6 ?_ | refine g7 ?_); simp only [xr, simprocAttr]; repeat (guard_target =~ _ ∧ _; refine ⟨by first | trivial | (unfold I64; omega) | omega | (simp <;> omega) | (intros; omega), ?_⟩))))
        ((try refine Or.inl ?_); refine ⟨_, (l11Solve_d (partL m rs cs) k (by omega) (by omega) hp1), .inr (by and_intros <;> first | rfl | (simp; done)), ?_⟩; (try simp only [xr, simprocAttr]); repeat (guard_target =~ _ ∧ _; refine ⟨by first | trivial | (unfold I64; omega) | omega | (simp <;> omega) | (intros; omega), ?_⟩))
        (repeat (first | refine g1 ?_ | refine g2 ?_ | ((first | refine g3 ?_ | refine g4 ?_ | refine g5 ?_); try simp only [xq, simprocAttr]) | ((first | refine g6 ?_ | refine g7 ?_); simp only [xr, simprocAttr]; repeat (guard_target =~ _ ∧ _; refine ⟨by first | trivial | (unfold I64; omega) | omega | (simp <;> omega) | (intros; omega), ?_⟩))))
        rw [hrs, hcs]
        ((try refine Or.inl ?_); refine ⟨_, (l11Part_d (colsOf c m) cs rs hq2 hcp2 hrp (by omega) (by omega)), .inr (by and_intros <;> first | rfl | (simp; done)), ?_⟩; (try simp only [xr, simprocAttr]); repeat (guard_target =~ _ ∧ _; refine ⟨by first | trivial | (unfold I64; omega) | omega | (simp <;> omega) | (intros; omega), ?_⟩))
        (repeat (first | refine g1 ?_ | refine g2 ?_ | ((first | refine g3 ?_ | refine g4 ?_ | refine g5 ?_); try simp only [xq, simprocAttr]) | ((first | refine g6 ?_ | refine g7 ?_); simp only [xr, simprocAttr]; repeat (guard_target =~ _ ∧ _; refine ⟨by first | trivial | (unfold I64; omega) | omega | (simp <;> omega) | (intros; omega), ?_⟩))))
        ((try refine Or.inl ?_); refine ⟨_, (l11Solve_d (partL (colsOf c m) cs rs) k (by omega) (by omega) hp2), .inr (by and_intros <;> first | rfl | (simp; done)), ?_⟩; (try simp only [xr, simprocAttr]); repeat (guard_target =~ _ ∧ _; refine ⟨by first | trivial | (unfold I64; omega) | omega | (simp <;> omega) | (intros; omega), ?_⟩))
        (repeat (first | refine g1 ?_ | refine g2 ?_ | ((first | refine g3 ?_ | refine g4 ?_ | refine g5 ?_); try simp only [xq, simprocAttr]) | ((first | refine g6 ?_ | refine g7 ?_); simp only [xr, simprocAttr]; repeat (guard_target =~ _ ∧ _; refine ⟨by first | trivial | (unfold I64; omega) | omega | (simp <;> omega) | (intros; omega), ?_⟩))))
        rw [hrs]
        ((try refine Or.inl ?_); refine ⟨_, (l11Fits_d m rs (solvL k (partL m rs cs)) 1 hq hrp (by omega) (by omega) ho1 hb1), .inl rfl, ?_⟩; (try simp only [xr, simprocAttr]); repeat (guard_target =~ _ ∧ _; refine ⟨by first | trivial | (unfold I64; omega) | omega | (simp <;> omega) | (intros; omega), ?_⟩))
        (repeat (first | refine g1 ?_ | refine g2 ?_ | ((first | refine g3 ?_ | refine g4 ?_ | refine g5 ?_); try simp only [xq, simprocAttr]) | ((first | refine g6 ?_ | refine g7 ?_); simp only [xr, simprocAttr]; repeat (guard_target =~ _ ∧ _; refine ⟨by first | trivial | (unfold I64; omega) | omega | (simp <;> omega) | (intros; omega), ?_⟩))))
        rw [hcs]
        ((try refine Or.inl ?_); refine ⟨_, (fun _ => l11Fits_d (colsOf c m) cs (solvL k (partL (colsOf c m) cs rs)) (-1) hq2 hcp2 (by omega) (by omega) ho2 hb2), .inl rfl, ?_⟩; (try simp only [xr, simprocAttr]); repeat (guard_target =~ _ ∧ _; refine ⟨by first | trivial | (unfold I64; omega) | omega | (simp <;> omega) | (intros; omega), ?_⟩))
        (repeat (first | refine g1 ?_ | refine g2 ?_ | ((first | refine g3 ?_ | refine g4 ?_ | refine g5 ?_); try simp only [xq, simprocAttr]) | ((first | refine g6 ?_ | refine g7 ?_); simp only [xr, simprocAttr]; repeat (guard_target =~ _ ∧ _; refine ⟨by first | trivial | (unfold I64; omega) | omega | (simp <;> omega) | (intros; omega), ?_⟩))))
        refine awp_cond (by first | rfl | (simp only [xr, simprocAttr]; rfl)) (fun hx => ?_) (fun hx => ?_)
        · have hx : hitB m c k rs cs = true := by rw [← hx, Bool.cond_false_right]; rfl
          have hxx : fitB m c rs (solOne m k rs cs) 1 = true ∧ fitB (colsOf c m) m.length cs (solTwo m c k rs cs) (-1) = true := by simpa [hitB] using hx
          have hs : solHit m c k rs cs = some (solV m c k rs cs) := if_pos hx
          have hr1 : solRow m c k rs = some (solV m c k rs cs) := fsq_hit (d := []) hjn hj' (by rw [hcs]; exact hs)
          have hr2 : solMany m c k = some (solV m c k rs cs) := fsq_hit (d := []) hin hi' (by rw [hrs]; exact hr1)
          have hr3 : solAll m c = some (solV m c k rs cs) := fsq_hit (d := 0) hqn (by rw [manyQ_len]; exact hq') (by
            have : manyQ.getD q 0 = q := by match q, hq' with | 0, _ => rfl | 1, _ => rfl | 2, _ => rfl
            rw [this, hk]; exact hr2)
          rw [hr3]
          have hp : 0 < (solvL k (partL m rs cs)).length := fit_pos hxx.1
          have hpp : 0 < (solvL k (partL (colsOf c m) cs rs)).length := fit_pos hxx.2
          have hd1 := hd1 hp
          have hd2 := hd2 hpp
          have hol1 : (solvL k (partL m rs cs)).length = k + 2 := ho1.resolve_left fun e => by rw [e] at hp; exact absurd hp (by decide)
          have hol2 : (solvL k (partL (colsOf c m) cs rs)).length = k + 2 := ho2.resolve_left fun e => by rw [e] at hpp; exact absurd hpp (by decide)
          have hbk := hb1 k
          have hbk1 := hb1 (k + 1)
          have hbk2 := hb2 (k + 1)
          have hsl1 := spL_len m.length (solvL k (partL m rs cs)) rs
          have hsl2 := spL_len c (solvL k (partL (colsOf c m) cs rs)) cs
          have hsb1 : BdL 1000000000 (spL m.length (solvL k (partL m rs cs)) rs) := spN_bd (by decide) _ _ hb1 _
          have hsb2 : BdL 1000000000 (spL c (solvL k (partL (colsOf c m) cs rs)) cs) := spN_bd (by decide) _ _ hb2 _
          (repeat (first | refine g1 ?_ | refine g2 ?_ | ((first | refine g3 ?_ | refine g4 ?_ | refine g5 ?_); try simp only [xq, simprocAttr]) | ((first | refine g6 ?_ | refine g7 ?_); simp only [xr, simprocAttr]; repeat (guard_target =~ _ ∧ _; refine ⟨by first | trivial | (unfold I64; omega) | omega | (simp <;> omega) | (intros; omega), ?_⟩))))
          ((repeat (first | refine g1 ?_ | refine g2 ?_ | ((first | refine g3 ?_ | refine g4 ?_); try simp only [xq, simprocAttr]))); refine awp_anyG 1 [(13, [1]), (14, [1])] [1] [(13, []), (14, [])] ?_; simp (maxSteps := 3000000) only [xg, xr, simprocAttr]; repeat (guard_target =~ _ ∧ _; refine ⟨by first | (guard_target =~ _ = _; rfl) | (guard_target =~ (_ : Int) ≤ _; omega) | (first | trivial | (unfold I64; omega) | omega | (simp <;> omega) | (intros; omega)), ?_⟩))
          ((try refine Or.inl ?_); refine ⟨_, (l2Make_d ((solvL k (partL m rs cs)).getD k 0) ((solvL k (partL m rs cs)).getD (k + 1) 0) hd1 (by omega) (by omega) (by omega)), .inr (by and_intros <;> first | rfl | (simp; done)), ?_⟩; (try simp (maxSteps := 3000000) only [xg, xr, simprocAttr]); repeat (guard_target =~ _ ∧ _; refine ⟨by first | (guard_target =~ _ = _; rfl) | (guard_target =~ (_ : Int) ≤ _; omega) | (first | trivial | (unfold I64; omega) | omega | (simp <;> omega) | (intros; omega)), ?_⟩))
          (repeat (first | refine g1 ?_ | refine g2 ?_ | ((first | refine g3 ?_ | refine g4 ?_ | refine g5 ?_); try simp only [xq, simprocAttr]) | ((first | refine g6 ?_ | refine g7 ?_); simp only [xr, simprocAttr]; repeat (guard_target =~ _ ∧ _; refine ⟨by first | trivial | (unfold I64; omega) | omega | (simp <;> omega) | (intros; omega), ?_⟩))))
          ((repeat (first | refine g1 ?_ | refine g2 ?_ | ((first | refine g3 ?_ | refine g4 ?_); try simp only [xq, simprocAttr]))); refine awp_anyG 0 [(31, [0])] [0] [(31, [])] ?_; simp (maxSteps := 3000000) only [xg, hrs, hcs, hcl, xr, simprocAttr]; repeat (guard_target =~ _ ∧ _; refine ⟨by first | (guard_target =~ _ = _; rfl) | (guard_target =~ (_ : Int) ≤ _; omega) | (first | trivial | (unfold I64; omega) | omega | (simp <;> omega) | (intros; omega)), ?_⟩))
          ((try refine Or.inl ?_); refine ⟨_, (l11Spread_d (k := k) (n := m.length) (solvL k (partL m rs cs)) rs hrp (by omega) (by omega) hl3), .inr (by and_intros <;> first | rfl | (simp; done)), ?_⟩; (try simp (maxSteps := 3000000) only [xg, xr, simprocAttr]); repeat (guard_target =~ _ ∧ _; refine ⟨by first | (guard_target =~ _ = _; rfl) | (guard_target =~ (_ : Int) ≤ _; omega) | (first | trivial | (unfold I64; omega) | omega | (simp <;> omega) | (intros; omega)), ?_⟩))
          ((try refine Or.inl ?_); refine ⟨_, (l11FracsQ_d (spL m.length (solvL k (partL m rs cs)) rs) ((solvL k (partL m rs cs)).getD (k + 1) 0) hd1 (by omega) (fun j => by have := hsb1 j; omega) (by omega)), .inr (by and_intros <;> first | rfl | (simp; done)), ?_⟩; (try simp (maxSteps := 3000000) only [xg, xr, simprocAttr]); repeat (guard_target =~ _ ∧ _; refine ⟨by first | (guard_target =~ _ = _; rfl) | (guard_target =~ (_ : Int) ≤ _; omega) | (first | trivial | (unfold I64; omega) | omega | (simp <;> omega) | (intros; omega)), ?_⟩))
          ((try refine Or.inl ?_); refine ⟨_, (l11Spread_d (k := k) (n := c) (solvL k (partL (colsOf c m) cs rs)) cs hcp (by omega) (by omega) hc3), .inr (by and_intros <;> first | rfl | (simp; done)), ?_⟩; (try simp (maxSteps := 3000000) only [xg, xr, simprocAttr]); repeat (guard_target =~ _ ∧ _; refine ⟨by first | (guard_target =~ _ = _; rfl) | (guard_target =~ (_ : Int) ≤ _; omega) | (first | trivial | (unfold I64; omega) | omega | (simp <;> omega) | (intros; omega)), ?_⟩))
          ((try refine Or.inl ?_); refine ⟨_, (l11FracsQ_d (spL c (solvL k (partL (colsOf c m) cs rs)) cs) ((solvL k (partL (colsOf c m) cs rs)).getD (k + 1) 0) hd2 (by omega) (fun j => by have := hsb2 j; omega) (by omega)), .inr (by and_intros <;> first | rfl | (simp; done)), ?_⟩; (try simp (maxSteps := 3000000) only [xg, xr, simprocAttr]); repeat (guard_target =~ _ ∧ _; refine ⟨by first | (guard_target =~ _ = _; rfl) | (guard_target =~ (_ : Int) ≤ _; omega) | (first | trivial | (unfold I64; omega) | omega | (simp <;> omega) | (intros; omega)), ?_⟩))
          (repeat (first | refine g1 ?_ | refine g2 ?_ | ((first | refine g3 ?_ | refine g4 ?_ | refine g5 ?_); try simp only [xq, simprocAttr]) | ((first | refine g6 ?_ | refine g7 ?_); simp only [xr, simprocAttr]; repeat (guard_target =~ _ ∧ _; refine ⟨by first | trivial | (unfold I64; omega) | omega | (simp <;> omega) | (intros; omega), ?_⟩))))
          (simp only [xec, simprocAttr]; refine ⟨[_, _, _, _], ⟨rfl, rfl, ⟨by simp only [xr, simprocAttr] <;> (and_intros <;> first | trivial | (unfold I64; omega) | omega | (simp <;> omega) | (intros; omega)), rfl⟩, rfl, trivial⟩, rfl, Imp.eq ?_⟩)
          all_goals rfl
        · have hx : hitB m c k rs cs = false := by rw [← hx, Bool.cond_false_right]; rfl
          have hs : solHit m c k rs cs = none := if_neg (by rw [hx]; decide)
          have hn := fsq_next (d := []) hjn hj' (by rw [hcs]; exact hs)
          (repeat (first | refine g1 ?_ | refine g2 ?_ | ((first | refine g3 ?_ | refine g4 ?_ | refine g5 ?_); try simp only [xq, simprocAttr]) | ((first | refine g6 ?_ | refine g7 ?_); simp only [xr, simprocAttr]; repeat (guard_target =~ _ ∧ _; refine ⟨by first | trivial | (unfold I64; omega) | omega | (simp <;> omega) | (intros; omega), ?_⟩))))
          refine ⟨j + 1, by omega, hn, by omega, .inl ?_⟩
          ((try simp only [xk]); (repeat (refine leK_cons ?_ ?_; first | (focus (first | rfl | (simp only [xr, simprocAttr]; done) | (simp only [xr, simprocAttr]; refine int_eq1 ?_; first | trivial | (unfold I64; omega) | omega | (simp <;> omega) | (intros; omega)))) | rotate_left)); (refine leK_nil ?_; exact (by rfl)); (all_goals (try (simp only [xr, simprocAttr]; try refine int_eq1 ?_))))
      · have hf := of_decide_eq_false hf
        obtain rfl : j = (chs c k).length := by omega
        have hn := fsq_next (d := []) hin hi' (by rw [hrs]; exact fsq_all hjn)
        (repeat (first | refine g1 ?_ | refine g2 ?_ | ((first | refine g3 ?_ | refine g4 ?_ | refine g5 ?_); try simp only [xq, simprocAttr]) | ((first | refine g6 ?_ | refine g7 ?_); simp only [xr, simprocAttr]; repeat (guard_target =~ _ ∧ _; refine ⟨by first | trivial | (unfold I64; omega) | omega | (simp <;> omega) | (intros; omega), ?_⟩))))
        refine ⟨i + 1, by omega, hn, by omega, .inl ?_⟩
        ((try simp only [xk]); (repeat (refine leK_cons ?_ ?_; first | (focus (first | rfl | (simp only [xr, simprocAttr]; done) | (simp only [xr, simprocAttr]; refine int_eq1 ?_; first | trivial | (unfold I64; omega) | omega | (simp <;> omega) | (intros; omega)))) | rotate_left)); (refine leK_nil ?_; exact (by rfl)); (all_goals (try (simp only [xr, simprocAttr]; try refine int_eq1 ?_))))
    · have he := of_decide_eq_false he
      obtain rfl : i = (chs m.length k).length := by omega
      have hn := fsq_next (d := 0) hqn (by rw [manyQ_len]; exact hq') (by
            have : manyQ.getD q 0 = q := by match q, hq' with | 0, _ => rfl | 1, _ => rfl | 2, _ => rfl
            rw [this, hk]; exact fsq_all hin)
      (repeat (first | refine g1 ?_ | refine g2 ?_ | ((first | refine g3 ?_ | refine g4 ?_ | refine g5 ?_); try simp only [xq, simprocAttr]) | ((first | refine g6 ?_ | refine g7 ?_); simp only [xr, simprocAttr]; repeat (guard_target =~ _ ∧ _; refine ⟨by first | trivial | (unfold I64; omega) | omega | (simp <;> omega) | (intros; omega), ?_⟩))))
      refine ⟨q + 1, by omega, hn, by omega, .inl ?_⟩
      ((try simp only [xk]); (repeat (refine leK_cons ?_ ?_; first | (focus (first | rfl | (simp only [xr, simprocAttr]; done) | (simp only [xr, simprocAttr]; refine int_eq1 ?_; first | trivial | (unfold I64; omega) | omega | (simp <;> omega) | (intros; omega)))) | rotate_left)); (refine leK_nil ?_; exact (by rfl)); (all_goals (try (simp only [xr, simprocAttr]; try refine int_eq1 ?_))))
  · have hd := of_decide_eq_false hd
    obtain rfl : q = 3 := by omega
    have hn : solAll m c = none := fsq_all hqn
    rw [hn]
    (repeat (first | refine g1 ?_ | refine g2 ?_ | ((first | refine g3 ?_ | refine g4 ?_); try simp only [xq, simprocAttr]) | ((first | refine g6 ?_ | refine g7 ?_); simp only [xr, simprocAttr]; repeat (guard_target =~ _ ∧ _; refine ⟨by first | trivial | (unfold I64; omega) | omega | (simp <;> omega) | (intros; omega), ?_⟩))))
    (refine awp_frz 1 rfl ?_; simp only [xz, simprocAttr])
    (refine awp_frz 2 rfl ?_; simp only [xz, simprocAttr])
    (repeat (first | refine g1 ?_ | refine g2 ?_ | ((first | refine g3 ?_ | refine g4 ?_ | refine g5 ?_); try simp only [xq, simprocAttr]) | ((first | refine g6 ?_ | refine g7 ?_); simp only [xr, simprocAttr]; repeat (guard_target =~ _ ∧ _; refine ⟨by first | trivial | (unfold I64; omega) | omega | (simp <;> omega) | (intros; omega), ?_⟩))))
    (simp only [xec, simprocAttr]; refine ⟨[_, _, _, _], ⟨rfl, rfl, ⟨by simp only [xr, simprocAttr] <;> (and_intros <;> first | trivial | (unfold I64; omega) | omega | (simp <;> omega) | (intros; omega)), rfl⟩, rfl, trivial⟩, rfl, Imp.eq ?_⟩)
    all_goals rfl
end Go.Proofs.Ytpihfeganpdjiaa
