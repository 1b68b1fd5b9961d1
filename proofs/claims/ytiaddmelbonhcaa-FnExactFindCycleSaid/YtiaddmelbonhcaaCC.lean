/- FindCycle of the program, on the machine. Conditions: none. -/
import Derived.Test.YtiaddmelbonhcaaPR
import Derived.Test.YtiaddmelbonhcaaSeqD
import Derived.Test.YtiaddmelbonhcaaCB
set_option linter.all false
set_option linter.unusedSimpArgs false
set_option linter.unusedVariables false
namespace Go.Proofs.Ytiaddmelbonhcaa
open Go Go.RowKit Am

theorem eg_at {m s : List (List Int)} {g : PrT} (h : PrFull m s g) {c : List Int} (hc : c ∈ egs g.rows) : ∃ j, egOK g.list.length j c := by
  obtain ⟨row, h1, h2⟩ := List.mem_flatten.1 hc
  obtain ⟨j, hj, rfl⟩ := List.mem_iff_getElem.1 h1
  exact ⟨j, h.eg j hj c (by rw [getD_in hj]; exact h2)⟩
theorem ed_ok {m s : List (List Int)} {g : PrT} (h : PrFull m s g) : EdOK (egs g.rows) s.length g.list.length := by
  have hl := prob_len h.prob
  have hle := h.le
  refine ⟨by rw [egs_len h.row, h.rlen], by omega, ⟨by omega, by omega⟩, fun c hc => ?_⟩
  obtain ⟨j, k, u, v, rfl, h1, _⟩ := eg_at h hc
  show 0 ≤ (k : Int) ∧ (k : Int) < _
  omega
theorem gn_ok {m s : List (List Int)} {g : PrT} (h : PrFull m s g) {a : Int × Int} (ha : ratioB a = true) : GnOK a (egs g.rows) := fun c hc => by
  obtain ⟨h1, h2, h3, h4⟩ := ratio_ok ha
  obtain ⟨j, k, u, v, rfl, _, k1, k2, k3, k4⟩ := eg_at h hc
  show 0 ≤ a.2 * u ∧ a.2 * u ≤ _ ∧ 0 ≤ a.1 * v ∧ a.1 * v ≤ _
  have e1 : 0 ≤ a.2 * u := Int.mul_nonneg (by omega) k1
  have e2 : a.2 * u ≤ 100000 * 119 := Int.mul_le_mul h4 k2 k1 (by omega)
  have e3 : 0 ≤ a.1 * v := Int.mul_nonneg h1 k3
  have e4 : a.1 * v ≤ 100000000 * 100000 := Int.mul_le_mul h2 k4 k3 (by omega)
  omega
theorem fs_step {β : Type} {f : Nat → Option β} {k : Nat} (h : (List.range k).findSome? f = none) (h2 : f k = none) : (List.range (k + 1)).findSome? f = none := by
  rw [List.range_succ, List.findSome?_append, h]
  simp [h2]
theorem fs_hit {β : Type} {f : Nat → Option β} {k n : Nat} {b : β} (hk : k < n) (h : (List.range k).findSome? f = none) (h2 : f k = some b) : (List.range n).findSome? f = some b := by
  obtain ⟨j, rfl⟩ := Nat.exists_eq_add_of_lt hk
  rw [show k + j + 1 = k + (j + 1) by omega, List.range_add, List.findSome?_append, h, Option.none_or, List.range_succ_eq_map, List.map_cons, List.findSome?_cons, Nat.add_zero, h2]
def findN (a : Int × Int) (E : List (List Int)) (K N n : Nat) : Option (Nat × List Int) := (List.range N).findSome? fun p => (firstS K n (goodE a E K p)).map fun w => (p, w)
def findC (a : Int × Int) (E : List (List Int)) (K N : Nat) : Option (Nat × List Int) := (List.range 6).findSome? fun i => findN a E K N (i + 1)
def cyR : Option (Nat × List Int) → AV
  | none => .tup [.one (.b (.val (.int .i64 0))), .one (.b (.val (.slice none 0 0))), .one (.b (.val (.bool false)))]
  | some (p, _) => .tup [.one (.b (.val (.int .i64 p))), .one (.own 0), .one (.b (.val (.bool true)))]
def cyO : Option (Nat × List Int) → List Ob
  | none => []
  | some (_, w) => [.row 3 (.ints w)]
def cyc (m s nx : List (List Int)) (x : Int) (a : Int × Int) : Option (Nat × List Int) := bif (prQ m s nx x).2 || !ratioB a then none else findC a (egs (prQ m s nx x).1.rows) s.length (prQ m s nx x).1.list.length
theorem prQ_full {m s nx : List (List Int)} {x : Int} (h : (prQ m s nx x).2 = false) : PrFull m s (prQ m s nx x).1 := by
  unfold prQ at h ⊢
  cases hc : (takesB m s x [] && algB m s nx)
  · rw [hc] at h; cases h
  · rw [hc] at h
    simp only [cond_true] at h ⊢
    rw [Bool.and_eq_true] at hc
    obtain ⟨hp, ⟨y, rfl, hy⟩, -, -⟩ := takes_ok hc.1
    rw [Int.toNat_natCast] at h ⊢
    exact pr_full hp hc.2 hy h
set_option maxHeartbeats 4000000 in
theorem FindCycle_h (m s nx : List (List Int)) (x : Int) (a : Int × Int) : DoesH Try.prog 34 [prA m s, .sl (.ii nx), .int x, frA a] [] [] (cyR (cyc m s nx x a)) (cyO (cyc m s nx x a)) := by
  have hP := pairsOf_h m s nx x
  refine spec_hB Try.func34 rfl Try.ntmps34 cfOK (fun _ _ => by kernel_rfl) rfl rfl rfl ?_
  intro M0 w0 S φ0
  rw [Try.results34]
  (repeat (first | refine g1 ?_ | refine g2 ?_ | ((first | refine g3 ?_ | refine g4 ?_ | refine g5 ?_); try simp only [xq, simprocAttr]) | ((first | refine g6 ?_ | refine g7 ?_); simp only [xr, simprocAttr]; repeat (guard_target =~ _ ∧ _; refine ⟨by first | trivial | (unfold I64; omega) | omega | (simp <;> omega) | (intros; omega), ?_⟩))))
  cases hq : (prQ m s nx x).2
  · have hF := prQ_full hq
    rw [show prR (prQ m s nx x) = .tup [.one (.ptr 0 0), .one (.b (.val (.bool true)))] by unfold prR; rw [hq]; rfl, show prO s.length (prQ m s nx x) = [.box [.own 1, .own 2, .b (.val (.int .i64 s.length))], .row 128 (.k 2 (prQ m s nx x).1.list), .row 88 (.k 4 (egs (prQ m s nx x).1.rows))] by unfold prO; rw [hq]; rfl] at hP
    have hcy : cyc m s nx x a = bif !ratioB a then none else findC a (egs (prQ m s nx x).1.rows) s.length (prQ m s nx x).1.list.length := by unfold cyc; rw [hq]; rfl
    rw [hcy]
    generalize (prQ m s nx x).1 = g at hP hF
    (refine .inr (callW_a [] (hP) rfl rfl rfl rfl trivial rfl rfl rfl rfl ?_); (try simp only [xr, simprocAttr]); repeat (guard_target =~ _ ∧ _; refine ⟨by first | trivial | (unfold I64; omega) | omega | (simp <;> omega) | (intros; omega), ?_⟩))
    (repeat (first | refine g1 ?_ | refine g2 ?_ | ((first | refine g3 ?_ | refine g4 ?_ | refine g5 ?_); try simp only [xq, simprocAttr]) | ((first | refine g6 ?_ | refine g7 ?_); simp only [xr, simprocAttr]; repeat (guard_target =~ _ ∧ _; refine ⟨by first | trivial | (unfold I64; omega) | omega | (simp <;> omega) | (intros; omega), ?_⟩))))
    ((try refine Or.inl ?_); refine ⟨_, (isRatio_d a), .inl rfl, ?_⟩; (try simp only [xr, simprocAttr]); repeat (guard_target =~ _ ∧ _; refine ⟨by first | trivial | (unfold I64; omega) | omega | (simp <;> omega) | (intros; omega), ?_⟩))
    (repeat (first | refine g1 ?_ | refine g2 ?_ | ((first | refine g3 ?_ | refine g4 ?_ | refine g5 ?_); try simp only [xq, simprocAttr]) | ((first | refine g6 ?_ | refine g7 ?_); simp only [xr, simprocAttr]; repeat (guard_target =~ _ ∧ _; refine ⟨by first | trivial | (unfold I64; omega) | omega | (simp <;> omega) | (intros; omega), ?_⟩))))
    cases hra : ratioB a
    · refine awp_cond (by first | rfl | (simp only [xr, simprocAttr]; rfl)) (fun hr => ?_) (fun hr => ?_)
      · (repeat (first | refine g1 ?_ | refine g2 ?_ | ((first | refine g3 ?_ | refine g4 ?_ | refine g5 ?_); try simp only [xq, simprocAttr]) | ((first | refine g6 ?_ | refine g7 ?_); simp only [xr, simprocAttr]; repeat (guard_target =~ _ ∧ _; refine ⟨by first | trivial | (unfold I64; omega) | omega | (simp <;> omega) | (intros; omega), ?_⟩))))
        (simp only [ends_normal, ends_ret]; refine retH_2 (vs := [_, _, _]) [] rfl trivial rfl rfl rfl rfl ⟨rfl, rfl, rfl, trivial⟩ ?_; try rfl)
      · simp at hr
    refine awp_cond (by first | rfl | (simp only [xr, simprocAttr]; rfl)) (fun hr => ?_) (fun hr => ?_)
    · simp at hr
    (repeat (first | refine g1 ?_ | refine g2 ?_ | ((first | refine g3 ?_ | refine g4 ?_ | refine g5 ?_); try simp only [xq, simprocAttr]) | ((first | refine g6 ?_ | refine g7 ?_); simp only [xr, simprocAttr]; repeat (guard_target =~ _ ∧ _; refine ⟨by first | trivial | (unfold I64; omega) | omega | (simp <;> omega) | (intros; omega), ?_⟩))))
    have hE := ed_ok hF
    have hG := gn_ok hF hra
    have hle := hF.le
    generalize egs g.rows = E at hE hG
    (refine awp_frz 3 rfl ?_; simp only [xz, simprocAttr])
    (refine awp_frz 4 rfl ?_; simp only [xz, simprocAttr])
    (refine awp_frzB 2 rfl rfl ?_; simp only [xzb, simprocAttr])
    (refine awp_frzB 1 rfl rfl ?_; simp only [xzb, simprocAttr])
    refine awp_rounds (α := Nat) (fun i => [(13, true, .int ((i + 1 : Nat) : Int))]) [7, 8, 9, 10, 11] (fun _ => [.box [.b (.sl (.ii m)), .b (.sl (.ii s))], .gone, .gone, .gone, .gone, bxX g.list E s.length]) (fun i => i ≤ 6 ∧ (List.range i).findSome? (fun i => findN a E s.length g.list.length (i + 1)) = none) (fun i => 6 - i) 0 (by ((try simp only [xk]); (repeat (refine leK_cons ?_ ?_; first | (focus (first | rfl | (simp only [xr, simprocAttr]; done) | (simp only [xr, simprocAttr]; refine int_eq1 ?_; first | trivial | (unfold I64; omega) | omega | (simp <;> omega) | (intros; omega)))) | rotate_left)); (refine leK_nil ?_; exact (by rfl)); (all_goals (try (simp only [xr, simprocAttr]; try refine int_eq1 ?_))))) ⟨by omega, rfl⟩ fun i hi => ?_
    obtain ⟨hi, hno⟩ := hi
    simp only [xr, simprocAttr]
    (repeat (first | refine g1 ?_ | refine g2 ?_ | ((first | refine g3 ?_ | refine g4 ?_ | refine g5 ?_); try simp only [xq, simprocAttr]) | ((first | refine g6 ?_ | refine g7 ?_); simp only [xr, simprocAttr]; repeat (guard_target =~ _ ∧ _; refine ⟨by first | trivial | (unfold I64; omega) | omega | (simp <;> omega) | (intros; omega), ?_⟩))))
    refine awp_cond (by first | rfl | (simp only [xr, simprocAttr]; rfl)) (fun hc => ?_) (fun hc => ?_)
    · have hc := of_decide_eq_true hc
      (repeat (first | refine g1 ?_ | refine g2 ?_ | ((first | refine g3 ?_ | refine g4 ?_ | refine g5 ?_); try simp only [xq, simprocAttr]) | ((first | refine g6 ?_ | refine g7 ?_); simp only [xr, simprocAttr]; repeat (guard_target =~ _ ∧ _; refine ⟨by first | trivial | (unfold I64; omega) | omega | (simp <;> omega) | (intros; omega), ?_⟩))))
      refine awp_rounds (α := Nat) (fun p => [(39, true, .int p)]) [7, 8, 9, 10, 11, 13, 38] (fun _ => [.box [.b (.sl (.ii m)), .b (.sl (.ii s))], .gone, .gone, .gone, .gone, bxX g.list E s.length]) (fun p => p ≤ g.list.length ∧ (List.range p).findSome? (fun p => (firstS s.length (i + 1) (goodE a E s.length p)).map fun w => (p, w)) = none) (fun p => g.list.length - p) 0 (by ((try simp only [xk]); (repeat (refine leK_cons ?_ ?_; first | (focus (first | rfl | (simp only [xr, simprocAttr]; done) | (simp only [xr, simprocAttr]; refine int_eq1 ?_; first | trivial | (unfold I64; omega) | omega | (simp <;> omega) | (intros; omega)))) | rotate_left)); (refine leK_nil ?_; exact (by rfl)); (all_goals (try (simp only [xr, simprocAttr]; try refine int_eq1 ?_))))) ⟨by omega, rfl⟩ fun p hp => ?_
      obtain ⟨hp, hnp⟩ := hp
      simp only [xr, simprocAttr]
      (repeat (first | refine g1 ?_ | refine g2 ?_ | ((first | refine g3 ?_ | refine g4 ?_ | refine g5 ?_); try simp only [xq, simprocAttr]) | ((first | refine g6 ?_ | refine g7 ?_); simp only [xr, simprocAttr]; repeat (guard_target =~ _ ∧ _; refine ⟨by first | trivial | (unfold I64; omega) | omega | (simp <;> omega) | (intros; omega), ?_⟩))))
      refine awp_cond (by first | rfl | (simp only [xr, simprocAttr]; rfl)) (fun hd => ?_) (fun hd => ?_)
      · have hd := of_decide_eq_true hd
        have hpl : p < g.list.length := by omega
        have hS := sequencesF_h (L := g.list) hE hG hpl (n := i + 1) (by omega)
        ((repeat (first | refine g1 ?_ | refine g2 ?_ | ((first | refine g3 ?_ | refine g4 ?_); try simp only [xq, simprocAttr]))); ((first | refine g6 ?_ | refine g7 ?_); simp only [xr, simprocAttr]; repeat (guard_target =~ _ ∧ _; refine ⟨by first | trivial | (unfold I64; omega) | omega | (simp <;> omega) | (intros; omega), ?_⟩)); (repeat (first | refine g1 ?_ | refine g2 ?_ | ((first | refine g3 ?_ | refine g4 ?_); try simp only [xq, simprocAttr]))))
        (refine awp_frzB 6 rfl rfl ?_; simp only [xzb, simprocAttr])
        (repeat (first | refine g1 ?_ | refine g2 ?_ | ((first | refine g3 ?_ | refine g4 ?_ | refine g5 ?_); try simp only [xq, simprocAttr]) | ((first | refine g6 ?_ | refine g7 ?_); simp only [xr, simprocAttr]; repeat (guard_target =~ _ ∧ _; refine ⟨by first | trivial | (unfold I64; omega) | omega | (simp <;> omega) | (intros; omega), ?_⟩))))
        cases hfs : firstS s.length (i + 1) (goodE a E s.length p) with
        | none =>
          rw [hfs] at hS
          (refine .inr (callW_a [7, 5] (hS) rfl rfl rfl rfl ⟨rfl, rfl, trivial⟩ rfl rfl rfl rfl ?_); (try simp only [xr, simprocAttr]); repeat (guard_target =~ _ ∧ _; refine ⟨by first | trivial | (unfold I64; omega) | omega | (simp <;> omega) | (intros; omega), ?_⟩))
          (repeat (first | refine g1 ?_ | refine g2 ?_ | ((first | refine g3 ?_ | refine g4 ?_ | refine g5 ?_); try simp only [xq, simprocAttr]) | ((first | refine g6 ?_ | refine g7 ?_); simp only [xr, simprocAttr]; repeat (guard_target =~ _ ∧ _; refine ⟨by first | trivial | (unfold I64; omega) | omega | (simp <;> omega) | (intros; omega), ?_⟩))))
          refine awp_cond (by first | rfl | (simp only [xr, simprocAttr]; rfl)) (fun hz => ?_) (fun hz => ?_)
          · simp at hz
          (repeat (first | refine g1 ?_ | refine g2 ?_ | ((first | refine g3 ?_ | refine g4 ?_ | refine g5 ?_); try simp only [xq, simprocAttr]) | ((first | refine g6 ?_ | refine g7 ?_); simp only [xr, simprocAttr]; repeat (guard_target =~ _ ∧ _; refine ⟨by first | trivial | (unfold I64; omega) | omega | (simp <;> omega) | (intros; omega), ?_⟩))))
          refine ⟨p + 1, by omega, fs_step hnp (by rw [hfs]; rfl), by omega, .inr ⟨6, Nat.le_of_ble_eq_true rfl, leT_of ?_ rfl rfl rfl⟩⟩
          ((try simp only [xk]); (repeat (refine leK_cons ?_ ?_; first | (focus (first | rfl | (simp only [xr, simprocAttr]; done) | (simp only [xr, simprocAttr]; refine int_eq1 ?_; first | trivial | (unfold I64; omega) | omega | (simp <;> omega) | (intros; omega)))) | rotate_left)); (refine leK_nil ?_; exact (by rfl)); (all_goals (try (simp only [xr, simprocAttr]; try refine int_eq1 ?_))))
        | some w =>
          have hwl : w.length = i + 1 := preS_len (k := s.length ^ (i + 1)) hfs
          rw [hfs] at hS
          (refine .inr (callW_a [7, 5] (hS) rfl rfl rfl rfl ⟨rfl, rfl, trivial⟩ rfl rfl rfl rfl ?_); (try simp only [xr, simprocAttr]); repeat (guard_target =~ _ ∧ _; refine ⟨by first | trivial | (unfold I64; omega) | omega | (simp <;> omega) | (intros; omega), ?_⟩))
          (repeat (first | refine g1 ?_ | refine g2 ?_ | ((first | refine g3 ?_ | refine g4 ?_ | refine g5 ?_); try simp only [xq, simprocAttr]) | ((first | refine g6 ?_ | refine g7 ?_); simp only [xr, simprocAttr]; repeat (guard_target =~ _ ∧ _; refine ⟨by first | trivial | (unfold I64; omega) | omega | (simp <;> omega) | (intros; omega), ?_⟩))))
          refine awp_cond (by first | rfl | (simp only [xr, simprocAttr]; rfl)) (fun hz => ?_) (fun hz => ?_)
          · have hfin : findC a E s.length g.list.length = some (p, w) := fs_hit (k := i) (by omega) hno (fs_hit hpl hnp (by rw [hfs]; rfl))
            rw [hfin]
            (repeat (first | refine g1 ?_ | refine g2 ?_ | ((first | refine g3 ?_ | refine g4 ?_ | refine g5 ?_); try simp only [xq, simprocAttr]) | ((first | refine g6 ?_ | refine g7 ?_); simp only [xr, simprocAttr]; repeat (guard_target =~ _ ∧ _; refine ⟨by first | trivial | (unfold I64; omega) | omega | (simp <;> omega) | (intros; omega), ?_⟩))))
            (simp only [ends_normal, ends_ret]; refine retH_2 (vs := [_, _, _]) [8] rfl ⟨rfl, trivial⟩ rfl rfl rfl rfl ⟨rfl, rfl, rfl, trivial⟩ ?_; try rfl)
          · simp at hz
      · have hd := of_decide_eq_false hd
        obtain rfl : p = g.list.length := by omega
        (repeat (first | refine g1 ?_ | refine g2 ?_ | ((first | refine g3 ?_ | refine g4 ?_ | refine g5 ?_); try simp only [xq, simprocAttr]) | ((first | refine g6 ?_ | refine g7 ?_); simp only [xr, simprocAttr]; repeat (guard_target =~ _ ∧ _; refine ⟨by first | trivial | (unfold I64; omega) | omega | (simp <;> omega) | (intros; omega), ?_⟩))))
        refine ⟨i + 1, by omega, fs_step hno hnp, by omega, .inr ⟨6, Nat.le_of_ble_eq_true rfl, leT_of ?_ rfl rfl rfl⟩⟩
        ((try simp only [xk]); (repeat (refine leK_cons ?_ ?_; first | (focus (first | rfl | (simp only [xr, simprocAttr]; done) | (simp only [xr, simprocAttr]; refine int_eq1 ?_; first | trivial | (unfold I64; omega) | omega | (simp <;> omega) | (intros; omega)))) | rotate_left)); (refine leK_nil ?_; exact (by rfl)); (all_goals (try (simp only [xr, simprocAttr]; try refine int_eq1 ?_))))
    · have hc := of_decide_eq_false hc
      obtain rfl : i = 6 := by omega
      rw [show findC a E s.length g.list.length = none from hno]
      (repeat (first | refine g1 ?_ | refine g2 ?_ | ((first | refine g3 ?_ | refine g4 ?_ | refine g5 ?_); try simp only [xq, simprocAttr]) | ((first | refine g6 ?_ | refine g7 ?_); simp only [xr, simprocAttr]; repeat (guard_target =~ _ ∧ _; refine ⟨by first | trivial | (unfold I64; omega) | omega | (simp <;> omega) | (intros; omega), ?_⟩))))
      (simp only [ends_normal, ends_ret]; refine retH_2 (vs := [_, _, _]) [] rfl trivial rfl rfl rfl rfl ⟨rfl, rfl, rfl, trivial⟩ ?_; try rfl)
  · rw [show prR (prQ m s nx x) = .tup [.one (.b (.val (.pointer none))), .one (.b (.val (.bool false)))] by unfold prR; rw [hq]; rfl, show prO s.length (prQ m s nx x) = [] by unfold prO; rw [hq]; rfl] at hP
    have hcy : cyc m s nx x a = none := by unfold cyc; rw [hq]; rfl
    rw [hcy]
    (refine .inr (callW_a [] (hP) rfl rfl rfl rfl trivial rfl rfl rfl rfl ?_); (try simp only [xr, simprocAttr]); repeat (guard_target =~ _ ∧ _; refine ⟨by first | trivial | (unfold I64; omega) | omega | (simp <;> omega) | (intros; omega), ?_⟩))
    (repeat (first | refine g1 ?_ | refine g2 ?_ | ((first | refine g3 ?_ | refine g4 ?_ | refine g5 ?_); try simp only [xq, simprocAttr]) | ((first | refine g6 ?_ | refine g7 ?_); simp only [xr, simprocAttr]; repeat (guard_target =~ _ ∧ _; refine ⟨by first | trivial | (unfold I64; omega) | omega | (simp <;> omega) | (intros; omega), ?_⟩))))
    refine .inl ⟨AV.bool false, .inl rfl, ?_⟩
    simp only [xr, simprocAttr]
    (repeat (first | refine g1 ?_ | refine g2 ?_ | ((first | refine g3 ?_ | refine g4 ?_ | refine g5 ?_); try simp only [xq, simprocAttr]) | ((first | refine g6 ?_ | refine g7 ?_); simp only [xr, simprocAttr]; repeat (guard_target =~ _ ∧ _; refine ⟨by first | trivial | (unfold I64; omega) | omega | (simp <;> omega) | (intros; omega), ?_⟩))))
    refine awp_cond (by first | rfl | (simp only [xr, simprocAttr]; rfl)) (fun hr => ?_) (fun hr => ?_)
    · (repeat (first | refine g1 ?_ | refine g2 ?_ | ((first | refine g3 ?_ | refine g4 ?_ | refine g5 ?_); try simp only [xq, simprocAttr]) | ((first | refine g6 ?_ | refine g7 ?_); simp only [xr, simprocAttr]; repeat (guard_target =~ _ ∧ _; refine ⟨by first | trivial | (unfold I64; omega) | omega | (simp <;> omega) | (intros; omega), ?_⟩))))
      (simp only [ends_normal, ends_ret]; refine retH_2 (vs := [_, _, _]) [] rfl trivial rfl rfl rfl rfl ⟨rfl, rfl, rfl, trivial⟩ ?_; try rfl)
    · simp at hr
end Go.Proofs.Ytiaddmelbonhcaa
/- FindCycle of the reference, on the machine. Conditions: none. -/
set_option linter.all false
set_option linter.unusedSimpArgs false
set_option linter.unusedVariables false
namespace Go.Proofs.Ytiaddmelbonhcaa
open Go Go.RowKit Am

theorem l9Takes_d (m s nx : List (List Int)) (x : Int) (xs : List Int) : Does Try.prog 96 [prA m s, .sl (.ii nx), .int x, .sl (.ints xs)] (.imm (.bool (takesB m s x xs && algB m s nx))) := by
  refine spec_imm Try.func96 rfl Try.ntmps96 cfOK (fun _ _ => by kernel_rfl) rfl (Nat.le_of_ble_eq_true rfl) ?_
  intro M0 w0
  rw [Try.results96]
  (repeat (first | refine g1 ?_ | refine g2 ?_ | ((first | refine g3 ?_ | refine g4 ?_ | refine g5 ?_); try simp only [xq, simprocAttr]) | ((first | refine g6 ?_ | refine g7 ?_); simp only [xr, simprocAttr]; repeat (guard_target =~ _ ∧ _; refine ⟨by first | trivial | (unfold I64; omega) | omega | (simp <;> omega) | (intros; omega), ?_⟩))))
  ((try refine Or.inl ?_); refine ⟨_, (l8Takes_d m s x xs), .inl rfl, ?_⟩; (try simp only [xr, simprocAttr]); repeat (guard_target =~ _ ∧ _; refine ⟨by first | trivial | (unfold I64; omega) | omega | (simp <;> omega) | (intros; omega), ?_⟩))
  (repeat (first | refine g1 ?_ | refine g2 ?_ | ((first | refine g3 ?_ | refine g4 ?_ | refine g5 ?_); try simp only [xq, simprocAttr]) | ((first | refine g6 ?_ | refine g7 ?_); simp only [xr, simprocAttr]; repeat (guard_target =~ _ ∧ _; refine ⟨by first | trivial | (unfold I64; omega) | omega | (simp <;> omega) | (intros; omega), ?_⟩))))
  ((try refine Or.inl ?_); refine ⟨_, (fun hh => l8Alg_d m s nx (prob_rows (takes_ok hh).1)), .inl rfl, ?_⟩; (try simp only [xr, simprocAttr]); repeat (guard_target =~ _ ∧ _; refine ⟨by first | trivial | (unfold I64; omega) | omega | (simp <;> omega) | (intros; omega), ?_⟩))
  (repeat (first | refine g1 ?_ | refine g2 ?_ | ((first | refine g3 ?_ | refine g4 ?_ | refine g5 ?_); try simp only [xq, simprocAttr]) | ((first | refine g6 ?_ | refine g7 ?_); simp only [xr, simprocAttr]; repeat (guard_target =~ _ ∧ _; refine ⟨by first | trivial | (unfold I64; omega) | omega | (simp <;> omega) | (intros; omega), ?_⟩))))
  (simp only [xe, simprocAttr]; refine ⟨_, rfl, rfl, Imp.eq ?_⟩)
  show AV.bool _ = AV.bool _
  cases takesB m s x xs <;> rfl
theorem prQ_bad {m s nx : List (List Int)} {x : Int} (h : (takesB m s x [] && algB m s nx) = false) : prQ m s nx x = (⟨[], []⟩, true) := by unfold prQ; rw [h]; rfl
theorem l9Get_d (m s nx : List (List Int)) (x : Int) : Does Try.prog 49 [prA m s, .sl (.ii nx), .int x] (.imm (.tup [bif takesB m s x [] && algB m s nx then prAv (prQ m s nx x) else .agg [.b (.val (.slice none 0 0)), .b (.val (.slice none 0 0)), .b (.val (.bool false))], .one (.b (.val (.bool (!(prQ m s nx x).2))))])) := by
  refine spec_imm Try.func49 rfl Try.ntmps49 cfOK (fun _ _ => by kernel_rfl) rfl (Nat.le_of_ble_eq_true rfl) ?_
  intro M0 w0
  rw [Try.results49]
  (repeat (first | refine g1 ?_ | refine g2 ?_ | ((first | refine g3 ?_ | refine g4 ?_ | refine g5 ?_); try simp only [xq, simprocAttr]) | ((first | refine g6 ?_ | refine g7 ?_); simp only [xr, simprocAttr]; repeat (guard_target =~ _ ∧ _; refine ⟨by first | trivial | (unfold I64; omega) | omega | (simp <;> omega) | (intros; omega), ?_⟩))))
  ((try refine Or.inl ?_); refine ⟨_, (l9Takes_d m s nx x []), .inl rfl, ?_⟩; (try simp only [xr, simprocAttr]); repeat (guard_target =~ _ ∧ _; refine ⟨by first | trivial | (unfold I64; omega) | omega | (simp <;> omega) | (intros; omega), ?_⟩))
  (repeat (first | refine g1 ?_ | refine g2 ?_ | ((first | refine g3 ?_ | refine g4 ?_ | refine g5 ?_); try simp only [xq, simprocAttr]) | ((first | refine g6 ?_ | refine g7 ?_); simp only [xr, simprocAttr]; repeat (guard_target =~ _ ∧ _; refine ⟨by first | trivial | (unfold I64; omega) | omega | (simp <;> omega) | (intros; omega), ?_⟩))))
  refine awp_cond (by first | rfl | (simp only [xr, simprocAttr]; rfl)) (fun hc => ?_) (fun hc => ?_)
  · have hc' : (takesB m s x [] && algB m s nx) = false := by
      revert hc
      cases takesB m s x [] <;> cases algB m s nx <;> decide
    rw [prQ_bad hc', hc']
    (repeat (first | refine g1 ?_ | refine g2 ?_ | ((first | refine g3 ?_ | refine g4 ?_ | refine g5 ?_); try simp only [xq, simprocAttr]) | ((first | refine g6 ?_ | refine g7 ?_); simp only [xr, simprocAttr]; repeat (guard_target =~ _ ∧ _; refine ⟨by first | trivial | (unfold I64; omega) | omega | (simp <;> omega) | (intros; omega), ?_⟩))))
    (simp only [xec, simprocAttr]; refine ⟨[_, _], ⟨⟨by simp only [xr, simprocAttr] <;> (and_intros <;> first | trivial | (unfold I64; omega) | omega | (simp <;> omega) | (intros; omega)), rfl⟩, rfl, trivial⟩, rfl, Imp.eq ?_⟩)
    rfl
  · have hc' : (takesB m s x [] && algB m s nx) = true := by simpa using hc
    have hc2 := hc'
    rw [Bool.and_eq_true] at hc2
    obtain ⟨hp, ⟨y, rfl, hy⟩, -, -⟩ := takes_ok hc2.1
    have hq : prQ m s nx y = pr m s nx y := by unfold prQ; rw [hc', Int.toNat_natCast]; rfl
    rw [hq, hc']
    have hg := l9Make_d m s nx y hp hc2.2 hy
    generalize pr m s nx y = q at hg
    unfold prAv at hg ⊢
    (repeat (first | refine g1 ?_ | refine g2 ?_ | ((first | refine g3 ?_ | refine g4 ?_ | refine g5 ?_); try simp only [xq, simprocAttr]) | ((first | refine g6 ?_ | refine g7 ?_); simp only [xr, simprocAttr]; repeat (guard_target =~ _ ∧ _; refine ⟨by first | trivial | (unfold I64; omega) | omega | (simp <;> omega) | (intros; omega), ?_⟩))))
    ((try refine Or.inl ?_); refine ⟨_, hg, .inr (by and_intros <;> first | rfl | (simp; done)), ?_⟩; (try simp only [xr, simprocAttr]); repeat (guard_target =~ _ ∧ _; refine ⟨by first | trivial | (unfold I64; omega) | omega | (simp <;> omega) | (intros; omega), ?_⟩))
    (repeat (first | refine g1 ?_ | refine g2 ?_ | ((first | refine g3 ?_ | refine g4 ?_ | refine g5 ?_); try simp only [xq, simprocAttr]) | ((first | refine g6 ?_ | refine g7 ?_); simp only [xr, simprocAttr]; repeat (guard_target =~ _ ∧ _; refine ⟨by first | trivial | (unfold I64; omega) | omega | (simp <;> omega) | (intros; omega), ?_⟩))))
    ((repeat (first | refine g1 ?_ | refine g2 ?_ | ((first | refine g3 ?_ | refine g4 ?_); try simp only [xq, simprocAttr]))); refine awp_anyM [1] 4 [] (by kernel_rfl) (by kernel_rfl) (by kernel_rfl) (by kernel_rfl) (by kernel_rfl) ?_; simp (maxSteps := 3000000) only [xr, simprocAttr]; repeat (guard_target =~ _ ∧ _; refine ⟨by first | trivial | (unfold I64; omega) | omega | (simp <;> omega) | (intros; omega), ?_⟩))
    (repeat (first | refine g1 ?_ | refine g2 ?_ | ((first | refine g3 ?_ | refine g4 ?_ | refine g5 ?_); try simp only [xq, simprocAttr]) | ((first | refine g6 ?_ | refine g7 ?_); simp only [xr, simprocAttr]; repeat (guard_target =~ _ ∧ _; refine ⟨by first | trivial | (unfold I64; omega) | omega | (simp <;> omega) | (intros; omega), ?_⟩))))
    (simp only [xec, simprocAttr]; refine ⟨[_, _], ⟨⟨by simp only [xr, simprocAttr] <;> (and_intros <;> first | trivial | (unfold I64; omega) | omega | (simp <;> omega) | (intros; omega)), rfl⟩, rfl, trivial⟩, rfl, Imp.eq ?_⟩)
    rfl
/-- what the reference keeps of a graph -/
abbrev grA (g : PrT) : AV := .tv (.agg [.b (.sl (.k 2 g.list)), .b (.sl (.ki 3 (eg3 g.rows))), .b (.val (.bool false))])
theorem l9Gain_d (c : List Int) (a : Int × Int) (h1 : 0 ≤ a.2 * c.getD 2 0) (h2 : a.2 * c.getD 2 0 ≤ 1000000000000000) (h3 : 0 ≤ a.1 * c.getD 3 0) (h4 : a.1 * c.getD 3 0 ≤ 1000000000000000) : Does Try.prog 109 [frA a, .tv (.agg [.b (.val (.int .i64 ((c3 c).getD 0 0))), .b (.val (.int .i64 ((c3 c).getD 1 0))), .b (.val (.int .i64 ((c3 c).getD 2 0)))])] (.imm (.int (gainC a.1 a.2 c))) := by
  have e1 : (c3 c).getD 1 0 = c.getD 2 0 := rfl
  have e2 : (c3 c).getD 2 0 = c.getD 3 0 := rfl
  rw [← e1] at h1 h2
  rw [← e2] at h3 h4
  refine spec_imm Try.func109 rfl Try.ntmps109 cfOK (fun _ _ => by kernel_rfl) rfl (Nat.le_of_ble_eq_true rfl) ?_
  intro M0 w0
  rw [Try.results109]
  (repeat (first | refine g1 ?_ | refine g2 ?_ | ((first | refine g3 ?_ | refine g4 ?_ | refine g5 ?_); try simp only [xq, simprocAttr]) | ((first | refine g6 ?_ | refine g7 ?_); simp only [xr, simprocAttr]; repeat (guard_target =~ _ ∧ _; refine ⟨by first | trivial | (unfold I64; omega) | omega | (simp <;> omega) | (intros; omega), ?_⟩))))
  (simp only [xe, simprocAttr]; refine ⟨_, rfl, rfl, Imp.eq ?_⟩)
  rfl
theorem egs_at {c : Nat} : ∀ {rows : List (List (List Int))}, (∀ j, j < rows.length → (rows.getD j []).length = c) → ∀ p r, p < rows.length → r < c → (egs rows).getD (p * c + r) [] = (rows.getD p []).getD r []
  | [], _, p, r, hp, _ => by simp at hp
  | row :: rows, h, 0, r, _, hr => by
    have h1 : row.length = c := h 0 (by simp)
    show (row ++ rows.flatten).getD (0 * c + r) [] = row.getD r []
    rw [Nat.zero_mul, Nat.zero_add, List.getD_eq_getElem?_getD, List.getD_eq_getElem?_getD, List.getElem?_append_left (by omega)]
  | row :: rows, h, p + 1, r, hp, hr => by
    have h1 : row.length = c := h 0 (by simp)
    have ih := egs_at (rows := rows) (c := c) (fun j hj => by have := h (j + 1) (by simpa using hj); simpa using this) p r (by simpa using hp) hr
    show (row ++ rows.flatten).getD ((p + 1) * c + r) [] = (rows.getD p []).getD r []
    rw [List.getD_eq_getElem?_getD, List.getElem?_append_right (by rw [Nat.succ_mul]; omega), ← List.getD_eq_getElem?_getD, show (p + 1) * c + r - row.length = p * c + r by rw [Nat.succ_mul]; omega]
    exact ih
def fiR (o : Option (List Int)) : AV := .tup [.one (.b (.sl (.ints (o.getD [])))), .one (.b (.val (.bool o.isSome)))]
/-- a walk from at to another pair with a gain of more than what is still needed -/
def restE (a : Int × Int) (E : List (List Int)) (K p to : Nat) (gain : Int) (rs : List Int) : Bool := decide ((afterE E K p rs : Int) = (to : Int)) && decide (0 < gain + gainE a E K p rs)
theorem restE_cons (a : Int × Int) (E : List (List Int)) (K p to : Nat) (gain : Int) (r : Nat) (rs : List Int) : restE a E K p to gain ((r : Int) :: rs) = restE a E K (toE E K p r) to (gain + gainC a.1 a.2 (E.getD (p * K + r) [])) rs := by
  unfold restE
  rw [gainE, Int.toNat_natCast, Int.add_assoc]
  rfl
theorem restE_0 (a : Int × Int) (E : List (List Int)) (K p : Nat) : restE a E K p p 0 = goodE a E K p := by
  funext rs
  unfold restE goodE
  rw [Int.zero_add]
set_option maxHeartbeats 4000000 in
theorem l9Find_d {m s : List (List Int)} {g : PrT} (hF : PrFull m s g) {a : Int × Int} (ha : ratioB a = true) {to : Nat} (hto : to < g.list.length) : ∀ (n : Nat), n ≤ 6 → ∀ (p : Nat) (gain : Int), p < g.list.length → -100000000000000 * (10 - (n : Int)) ≤ gain → gain ≤ 100000000000000 * (10 - (n : Int)) →
    Does Try.prog 60 [grA g, frA a, .int p, .int to, .int n, .int gain] (.imm (fiR (firstS s.length n (restE a (egs g.rows) s.length p to gain)))) := by
  intro n
  have hE := ed_ok hF
  have hG := gn_ok hF ha
  have hrl := hF.rlen
  have hle := hF.le
  have hl := prob_len hF.prob
  induction n with
  | zero =>
    intro hn p gain hp h1 h2
    have hv : fiR (firstS s.length 0 (restE a (egs g.rows) s.length p to gain)) = .tup [.one (.b (.sl (.ints []))), .one (.b (.val (.bool (bif decide ((p : Int) = (to : Int)) then decide (0 < gain) else false))))] := by
      rw [firstS_zero]
      have e : restE a (egs g.rows) s.length p to gain [] = (decide ((p : Int) = (to : Int)) && decide (0 < gain)) := by unfold restE; rw [gainE, Int.add_zero]; rfl
      rw [e]
      cases decide ((p : Int) = (to : Int)) <;> cases decide (0 < gain) <;> rfl
    rw [hv]
    refine spec_imm Try.func60 rfl Try.ntmps60 cfOK (fun _ _ => by kernel_rfl) rfl (Nat.le_of_ble_eq_true rfl) ?_
    intro M0 w0
    rw [Try.results60]
    (repeat (first | refine g1 ?_ | refine g2 ?_ | ((first | refine g3 ?_ | refine g4 ?_ | refine g5 ?_); try simp only [xq, simprocAttr]) | ((first | refine g6 ?_ | refine g7 ?_); simp only [xr, simprocAttr]; repeat (guard_target =~ _ ∧ _; refine ⟨by first | trivial | (unfold I64; omega) | omega | (simp <;> omega) | (intros; omega), ?_⟩))))
    refine awp_cond (by first | rfl | (simp only [xr, simprocAttr]; rfl)) (fun hc => ?_) (fun hc => ?_)
    · (repeat (first | refine g1 ?_ | refine g2 ?_ | ((first | refine g3 ?_ | refine g4 ?_); try simp only [xq, simprocAttr]) | ((first | refine g6 ?_ | refine g7 ?_); simp only [xr, simprocAttr]; repeat (guard_target =~ _ ∧ _; refine ⟨by first | trivial | (unfold I64; omega) | omega | (simp <;> omega) | (intros; omega), ?_⟩))))
      (refine awp_frz 2 rfl ?_; simp only [xz, simprocAttr])
      (repeat (first | refine g1 ?_ | refine g2 ?_ | ((first | refine g3 ?_ | refine g4 ?_ | refine g5 ?_); try simp only [xq, simprocAttr]) | ((first | refine g6 ?_ | refine g7 ?_); simp only [xr, simprocAttr]; repeat (guard_target =~ _ ∧ _; refine ⟨by first | trivial | (unfold I64; omega) | omega | (simp <;> omega) | (intros; omega), ?_⟩))))
      (simp only [xec, simprocAttr]; refine ⟨[_, _], ⟨rfl, rfl, trivial⟩, rfl, Imp.eq ?_⟩)
      rfl
    · simp at hc
  | succ n ih =>
    intro hn p gain hp h1 h2
    have hp' : p < (eg3 g.rows).length := by simp [eg3]; omega
    have hrow := hF.row p (by omega)
    rw [firstS_cons hE.k.1]
    generalize hv : (fun (r : Nat) => (firstS s.length n fun rs => restE a (egs g.rows) s.length p to gain ((r : Int) :: rs)).map fun rs => (r : Int) :: rs) = f
    refine spec_imm Try.func60 rfl Try.ntmps60 cfOK (fun _ _ => by kernel_rfl) rfl (Nat.le_of_ble_eq_true rfl) ?_
    intro M0 w0
    rw [Try.results60]
    (repeat (first | refine g1 ?_ | refine g2 ?_ | ((first | refine g3 ?_ | refine g4 ?_ | refine g5 ?_); try simp only [xq, simprocAttr]) | ((first | refine g6 ?_ | refine g7 ?_); simp only [xr, simprocAttr]; repeat (guard_target =~ _ ∧ _; refine ⟨by first | trivial | (unfold I64; omega) | omega | (simp <;> omega) | (intros; omega), ?_⟩))))
    refine awp_cond (by first | rfl | (simp only [xr, simprocAttr]; rfl)) (fun hc => ?_) (fun hc => ?_)
    · exfalso
      simp at hc
      omega
    (repeat (first | refine g1 ?_ | refine g2 ?_ | ((first | refine g3 ?_ | refine g4 ?_ | refine g5 ?_); try simp only [xq, simprocAttr]) | ((first | refine g6 ?_ | refine g7 ?_); simp only [xr, simprocAttr]; repeat (guard_target =~ _ ∧ _; refine ⟨by first | trivial | (unfold I64; omega) | omega | (simp <;> omega) | (intros; omega), ?_⟩))))
    have hfr : ∀ r : Nat, f r = (firstS s.length n (restE a (egs g.rows) s.length (toE (egs g.rows) s.length p r) to (gain + gainC a.1 a.2 ((egs g.rows).getD (p * s.length + r) [])))).map fun rs => (r : Int) :: rs := fun r => by
      rw [← hv]
      simp only [restE_cons]
    have hlen : ((eg3 g.rows).getD p []).length = s.length := by
      have e : (eg3 g.rows).getD p [] = (g.rows.getD p []).map c3 := by
        unfold eg3
        rw [List.getD_eq_getElem?_getD, List.getD_eq_getElem?_getD, List.getElem?_map]
        cases g.rows[p]? <;> rfl
      rw [e, List.length_map, hrow]
    refine awp_rounds (α := Nat) (fun r => [(14, true, .int r)]) [2, 3, 4, 5, 6, 7] (fun _ => [.box [.b (.sl (.k 2 g.list)), .b (.sl (.ki 3 (eg3 g.rows))), .b (.val (.bool false))], .box [.b (.val (.int .i64 a.1)), .b (.val (.int .i64 a.2))]]) (fun r => r ≤ s.length ∧ (List.range r).findSome? f = none) (fun r => s.length - r) 0 (by ((try simp only [xk]); (repeat (refine leK_cons ?_ ?_; first | (focus (first | rfl | (simp only [xr, simprocAttr]; done) | (simp only [xr, simprocAttr]; refine int_eq1 ?_; first | trivial | (unfold I64; omega) | omega | (simp <;> omega) | (intros; omega)))) | rotate_left)); (refine leK_nil ?_; exact (by rfl)); (all_goals (try (simp only [xr, simprocAttr]; try refine int_eq1 ?_))))) ⟨Nat.zero_le _, rfl⟩ fun r hr => ?_
    obtain ⟨hr, hno⟩ := hr
    simp only [xr, simprocAttr]
    (repeat (first | refine g1 ?_ | refine g2 ?_ | ((first | refine g3 ?_ | refine g4 ?_ | refine g5 ?_); try simp only [xq, simprocAttr]) | ((first | refine g6 ?_ | refine g7 ?_); simp only [xr, simprocAttr]; repeat (guard_target =~ _ ∧ _; refine ⟨by first | trivial | (unfold I64; omega) | omega | (simp <;> omega) | (intros; omega), ?_⟩))))
    refine awp_cond (by first | rfl | (simp only [xr, simprocAttr]; rfl)) (fun hd => ?_) (fun hd => ?_)
    · have hd := of_decide_eq_true hd
      have hr' : r < s.length := by omega
      have hat := (hE.at hp hr').1
      have hge := hG _ (show (egs g.rows).getD (p * s.length + r) [] ∈ egs g.rows by rw [getD_in hat]; exact List.getElem_mem hat)
      have hto2 := toE_at hE hp hr'
      have he3 : ((eg3 g.rows).getD p []).getD r [] = c3 ((egs g.rows).getD (p * s.length + r) []) := by
        rw [egs_at hF.row p r (by omega) hr']
        have e : (eg3 g.rows).getD p [] = (g.rows.getD p []).map c3 := by
          unfold eg3
          rw [List.getD_eq_getElem?_getD, List.getD_eq_getElem?_getD, List.getElem?_map]
          cases g.rows[p]? <;> rfl
        rw [e]
        generalize g.rows.getD p [] = row at hrow
        rw [List.getD_eq_getElem?_getD, List.getD_eq_getElem?_getD, List.getElem?_map, List.getElem?_eq_getElem (show r < row.length by omega)]
        rfl
      have hgc : gainC a.1 a.2 ((egs g.rows).getD (p * s.length + r) []) = a.2 * ((egs g.rows).getD (p * s.length + r) []).getD 2 0 - a.1 * ((egs g.rows).getD (p * s.length + r) []).getD 3 0 := rfl
      have hc0 : (c3 ((egs g.rows).getD (p * s.length + r) [])).getD 0 0 = (toE (egs g.rows) s.length p r : Int) := hto2.1
      have hI := ih (by omega) (toE (egs g.rows) s.length p r) (gain + gainC a.1 a.2 ((egs g.rows).getD (p * s.length + r) [])) hto2.2 (by omega) (by omega)
      (repeat (first | refine g1 ?_ | refine g2 ?_ | ((first | refine g3 ?_ | refine g4 ?_ | refine g5 ?_); try simp only [xq, simprocAttr]) | ((first | refine g6 ?_ | refine g7 ?_); simp only [xr, simprocAttr]; repeat (guard_target =~ _ ∧ _; refine ⟨by first | trivial | (unfold I64; omega) | omega | (simp <;> omega) | (intros; omega), ?_⟩))))
      rw [he3]
      ((try refine Or.inl ?_); refine ⟨_, (l9Gain_d ((egs g.rows).getD (p * s.length + r) []) a hge.1 (by omega) hge.2.2.1 (by omega)), .inl rfl, ?_⟩; (try simp only [xr, simprocAttr]); repeat (guard_target =~ _ ∧ _; refine ⟨by first | trivial | (unfold I64; omega) | omega | (simp <;> omega) | (intros; omega), ?_⟩))
      (repeat (first | refine g1 ?_ | refine g2 ?_ | ((first | refine g3 ?_ | refine g4 ?_ | refine g5 ?_); try simp only [xq, simprocAttr]) | ((first | refine g6 ?_ | refine g7 ?_); simp only [xr, simprocAttr]; repeat (guard_target =~ _ ∧ _; refine ⟨by first | trivial | (unfold I64; omega) | omega | (simp <;> omega) | (intros; omega), ?_⟩))))
      rw [hc0, show ((n + 1 : Nat) : Int) - 1 = (n : Int) by omega]
      cases hfs : firstS s.length n (restE a (egs g.rows) s.length (toE (egs g.rows) s.length p r) to (gain + gainC a.1 a.2 ((egs g.rows).getD (p * s.length + r) []))) with
      | none =>
        rw [hfs] at hI
        have hI : Does _ _ _ (.imm (.tup [.one (.b (.sl (.ints []))), .one (.b (.val (.bool false)))])) := hI
        ((try refine Or.inl ?_); refine ⟨_, (hI), .inr (by and_intros <;> first | rfl | (simp; done)), ?_⟩; (try simp only [xr, simprocAttr]); repeat (guard_target =~ _ ∧ _; refine ⟨by first | trivial | (unfold I64; omega) | omega | (simp <;> omega) | (intros; omega), ?_⟩))
        (repeat (first | refine g1 ?_ | refine g2 ?_ | ((first | refine g3 ?_ | refine g4 ?_ | refine g5 ?_); try simp only [xq, simprocAttr]) | ((first | refine g6 ?_ | refine g7 ?_); simp only [xr, simprocAttr]; repeat (guard_target =~ _ ∧ _; refine ⟨by first | trivial | (unfold I64; omega) | omega | (simp <;> omega) | (intros; omega), ?_⟩))))
        refine awp_cond (by first | rfl | (simp only [xr, simprocAttr]; rfl)) (fun hz => ?_) (fun hz => ?_)
        · cases hz
        (repeat (first | refine g1 ?_ | refine g2 ?_ | ((first | refine g3 ?_ | refine g4 ?_ | refine g5 ?_); try simp only [xq, simprocAttr]) | ((first | refine g6 ?_ | refine g7 ?_); simp only [xr, simprocAttr]; repeat (guard_target =~ _ ∧ _; refine ⟨by first | trivial | (unfold I64; omega) | omega | (simp <;> omega) | (intros; omega), ?_⟩))))
        refine ⟨r + 1, by omega, fs_step hno (by rw [hfr, hfs]; rfl), by omega, .inr ⟨2, Nat.le_of_ble_eq_true rfl, leT_of ?_ rfl rfl rfl⟩⟩
        ((try simp only [xk]); (repeat (refine leK_cons ?_ ?_; first | (focus (first | rfl | (simp only [xr, simprocAttr]; done) | (simp only [xr, simprocAttr]; refine int_eq1 ?_; first | trivial | (unfold I64; omega) | omega | (simp <;> omega) | (intros; omega)))) | rotate_left)); (refine leK_nil ?_; exact (by rfl)); (all_goals (try (simp only [xr, simprocAttr]; try refine int_eq1 ?_))))
      | some w =>
        have hfin : (List.range s.length).findSome? f = some ((r : Int) :: w) := fs_hit hr' hno (by rw [hfr, hfs]; rfl)
        have hwl : w.length = n := preS_len (k := s.length ^ n) hfs
        rw [hfs] at hI
        rw [hfin]
        have hI : Does _ _ _ (.imm (.tup [.one (.b (.sl (.ints w))), .one (.b (.val (.bool true)))])) := hI
        ((try refine Or.inl ?_); refine ⟨_, (hI), .inr (by and_intros <;> first | rfl | (simp; done)), ?_⟩; (try simp only [xr, simprocAttr]); repeat (guard_target =~ _ ∧ _; refine ⟨by first | trivial | (unfold I64; omega) | omega | (simp <;> omega) | (intros; omega), ?_⟩))
        (repeat (first | refine g1 ?_ | refine g2 ?_ | ((first | refine g3 ?_ | refine g4 ?_ | refine g5 ?_); try simp only [xq, simprocAttr]) | ((first | refine g6 ?_ | refine g7 ?_); simp only [xr, simprocAttr]; repeat (guard_target =~ _ ∧ _; refine ⟨by first | trivial | (unfold I64; omega) | omega | (simp <;> omega) | (intros; omega), ?_⟩))))
        refine awp_cond (by first | rfl | (simp only [xr, simprocAttr]; rfl)) (fun hz => ?_) (fun hz => ?_)
        · ((repeat (first | refine g1 ?_ | refine g2 ?_ | ((first | refine g3 ?_ | refine g4 ?_); try simp only [xq, simprocAttr]))); refine awp_regO [false, true] ?_; simp only [xr, simprocAttr]; repeat (guard_target =~ _ ∧ _; refine ⟨by first | trivial | (unfold I64; omega) | omega | (simp <;> omega) | (intros; omega), ?_⟩))
          (refine awp_frz 3 rfl ?_; simp only [xz, simprocAttr])
          (repeat (first | refine g1 ?_ | refine g2 ?_ | ((first | refine g3 ?_ | refine g4 ?_ | refine g5 ?_); try simp only [xq, simprocAttr]) | ((first | refine g6 ?_ | refine g7 ?_); simp only [xr, simprocAttr]; repeat (guard_target =~ _ ∧ _; refine ⟨by first | trivial | (unfold I64; omega) | omega | (simp <;> omega) | (intros; omega), ?_⟩))))
          (simp only [xec, simprocAttr]; refine ⟨[_, _], ⟨rfl, rfl, trivial⟩, rfl, Imp.eq ?_⟩)
          rfl
        · cases hz
    · have hd := of_decide_eq_false hd
      obtain rfl : r = s.length := by omega
      rw [hno]
      (repeat (first | refine g1 ?_ | refine g2 ?_ | ((first | refine g3 ?_ | refine g4 ?_); try simp only [xq, simprocAttr]) | ((first | refine g6 ?_ | refine g7 ?_); simp only [xr, simprocAttr]; repeat (guard_target =~ _ ∧ _; refine ⟨by first | trivial | (unfold I64; omega) | omega | (simp <;> omega) | (intros; omega), ?_⟩))))
      (refine awp_frz 2 rfl ?_; simp only [xz, simprocAttr])
      (repeat (first | refine g1 ?_ | refine g2 ?_ | ((first | refine g3 ?_ | refine g4 ?_ | refine g5 ?_); try simp only [xq, simprocAttr]) | ((first | refine g6 ?_ | refine g7 ?_); simp only [xr, simprocAttr]; repeat (guard_target =~ _ ∧ _; refine ⟨by first | trivial | (unfold I64; omega) | omega | (simp <;> omega) | (intros; omega), ?_⟩))))
      (simp only [xec, simprocAttr]; refine ⟨[_, _], ⟨rfl, rfl, trivial⟩, rfl, Imp.eq ?_⟩)
      rfl
end Go.Proofs.Ytiaddmelbonhcaa
/- FindCycle of the reference, on the machine, and both as the law wants them. Conditions: none. -/
set_option linter.all false
set_option linter.unusedSimpArgs false
set_option linter.unusedVariables false
namespace Go.Proofs.Ytiaddmelbonhcaa
open Go Go.RowKit Am

def cyB (m s nx : List (List Int)) (x : Int) (a : Int × Int) : Bool := (cyc m s nx x a).isSome
def cyP (m s nx : List (List Int)) (x : Int) (a : Int × Int) : Int := match cyc m s nx x a with | none => 0 | some o => (o.1 : Int)
def cyW (m s nx : List (List Int)) (x : Int) (a : Int × Int) : List Int := match cyc m s nx x a with | none => [] | some o => o.2
theorem findSome_mem {β : Type} {f : Nat → Option β} {n : Nat} {b : β} (h : (List.range n).findSome? f = some b) : ∃ k, k < n ∧ f k = some b := by
  obtain ⟨k, h1, h2⟩ := List.exists_of_findSome?_eq_some h
  exact ⟨k, by simpa using h1, h2⟩
theorem cyW_len {m s nx : List (List Int)} {x : Int} {a : Int × Int} (hb : cyB m s nx x a = true) : 0 < (cyW m s nx x a).length ∧ (cyW m s nx x a).length ≤ 6 := by
  unfold cyB at hb
  unfold cyW
  cases hc : cyc m s nx x a with
  | none => rw [hc] at hb; cases hb
  | some o =>
    obtain ⟨p, w⟩ := o
    show 0 < w.length ∧ w.length ≤ 6
    unfold cyc at hc
    cases hq : ((prQ m s nx x).2 || !ratioB a)
    · rw [hq] at hc
      have hc : findC a (egs (prQ m s nx x).1.rows) s.length (prQ m s nx x).1.list.length = some (p, w) := hc
      obtain ⟨i, hi, h1⟩ := findSome_mem hc
      obtain ⟨p', _, h2⟩ := findSome_mem h1
      cases hf : firstS s.length (i + 1) (goodE a (egs (prQ m s nx x).1.rows) s.length p') with
      | none => rw [hf] at h2; cases h2
      | some w' =>
        rw [hf] at h2
        cases h2
        have : w.length = i + 1 := preS_len (k := s.length ^ (i + 1)) hf
        omega
    · rw [hq] at hc; cases hc
theorem impl_FindCycle_h (m s nx : List (List Int)) (x : Int) (a : Int × Int) (hb : cyB m s nx x a = true) : DoesH Try.prog 34 [prA m s, .sl (.ii nx), .int x, frA a] [] [] (.tup [.one (.b (.val (.int .i64 (cyP m s nx x a)))), .one (.own 0), .one (.b (.val (.bool true)))]) [.row 3 (.ints (cyW m s nx x a))] := by
  have h := FindCycle_h m s nx x a
  unfold cyB at hb
  unfold cyP cyW
  cases hc : cyc m s nx x a with
  | none => rw [hc] at hb; cases hb
  | some o => rw [hc] at h; exact h
theorem impl_FindCycle_i (m s nx : List (List Int)) (x : Int) (a : Int × Int) (hb : cyB m s nx x a = true) : Does Try.prog 34 [prA m s, .sl (.ii nx), .int x, frA a] (.imm (.tup [.one (.b (.val (.int .i64 (cyP m s nx x a)))), .one (.b (.sl (.ints (cyW m s nx x a)))), .one (.b (.val (.bool true)))])) := imm_of (impl_FindCycle_h m s nx x a hb)
theorem impl_FindCycle_0 (m s nx : List (List Int)) (x : Int) (a : Int × Int) (hb : cyB m s nx x a = false) : Does Try.prog 34 [prA m s, .sl (.ii nx), .int x, frA a] (.imm (.tup [.one (.b (.val (.int .i64 0))), .one (.b (.val (.slice none 0 0))), .one (.b (.val (.bool false)))])) := by
  have h := FindCycle_h m s nx x a
  unfold cyB at hb
  cases hc : cyc m s nx x a with
  | none => rw [hc] at h; exact imm_of h
  | some o => rw [hc] at hb; cases hb
def cyS : Option (Nat × List Int) → AV
  | none => .tup [.one (.b (.val (.int .i64 0))), .one (.b (.sl (.ints []))), .one (.b (.val (.bool false)))]
  | some (p, w) => .tup [.one (.b (.val (.int .i64 p))), .one (.b (.sl (.ints w))), .one (.b (.val (.bool true)))]
set_option maxHeartbeats 4000000 in
theorem spec_FindCycle_v (m s nx : List (List Int)) (x : Int) (a : Int × Int) : Does Try.prog 33 [prA m s, .sl (.ii nx), .int x, frA a] (.imm (cyS (cyc m s nx x a))) := by
  have hG := l9Get_d m s nx x
  cases hk : (takesB m s x [] && algB m s nx)
  · rw [hk, prQ_bad hk] at hG
    have hG : Does Try.prog 49 [prA m s, .sl (.ii nx), .int x] (.imm (.tup [.agg [.b (.val (.slice none 0 0)), .b (.val (.slice none 0 0)), .b (.val (.bool false))], .one (.b (.val (.bool false)))])) := hG
    have hcy : cyc m s nx x a = none := by unfold cyc; rw [prQ_bad hk]; rfl
    rw [hcy]
    refine spec_imm Try.func33 rfl Try.ntmps33 cfOK (fun _ _ => by kernel_rfl) rfl (Nat.le_of_ble_eq_true rfl) ?_
    intro M0 w0
    rw [Try.results33]
    (repeat (first | refine g1 ?_ | refine g2 ?_ | ((first | refine g3 ?_ | refine g4 ?_ | refine g5 ?_); try simp only [xq, simprocAttr]) | ((first | refine g6 ?_ | refine g7 ?_); simp only [xr, simprocAttr]; repeat (guard_target =~ _ ∧ _; refine ⟨by first | trivial | (unfold I64; omega) | omega | (simp <;> omega) | (intros; omega), ?_⟩))))
    ((try refine Or.inl ?_); refine ⟨_, (hG), .inr (by and_intros <;> first | rfl | (simp; done)), ?_⟩; (try simp only [xr, simprocAttr]); repeat (guard_target =~ _ ∧ _; refine ⟨by first | trivial | (unfold I64; omega) | omega | (simp <;> omega) | (intros; omega), ?_⟩))
    (repeat (first | refine g1 ?_ | refine g2 ?_ | ((first | refine g3 ?_ | refine g4 ?_ | refine g5 ?_); try simp only [xq, simprocAttr]) | ((first | refine g6 ?_ | refine g7 ?_); simp only [xr, simprocAttr]; repeat (guard_target =~ _ ∧ _; refine ⟨by first | trivial | (unfold I64; omega) | omega | (simp <;> omega) | (intros; omega), ?_⟩))))
    refine .inl ⟨AV.bool false, .inl rfl, ?_⟩
    simp only [xr, simprocAttr]
    (repeat (first | refine g1 ?_ | refine g2 ?_ | ((first | refine g3 ?_ | refine g4 ?_ | refine g5 ?_); try simp only [xq, simprocAttr]) | ((first | refine g6 ?_ | refine g7 ?_); simp only [xr, simprocAttr]; repeat (guard_target =~ _ ∧ _; refine ⟨by first | trivial | (unfold I64; omega) | omega | (simp <;> omega) | (intros; omega), ?_⟩))))
    refine awp_cond (by first | rfl | (simp only [xr, simprocAttr]; rfl)) (fun hr => ?_) (fun hr => ?_)
    · (repeat (first | refine g1 ?_ | refine g2 ?_ | ((first | refine g3 ?_ | refine g4 ?_); try simp only [xq, simprocAttr]) | ((first | refine g6 ?_ | refine g7 ?_); simp only [xr, simprocAttr]; repeat (guard_target =~ _ ∧ _; refine ⟨by first | trivial | (unfold I64; omega) | omega | (simp <;> omega) | (intros; omega), ?_⟩))))
      (refine awp_frz 3 rfl ?_; simp only [xz, simprocAttr])
      (repeat (first | refine g1 ?_ | refine g2 ?_ | ((first | refine g3 ?_ | refine g4 ?_ | refine g5 ?_); try simp only [xq, simprocAttr]) | ((first | refine g6 ?_ | refine g7 ?_); simp only [xr, simprocAttr]; repeat (guard_target =~ _ ∧ _; refine ⟨by first | trivial | (unfold I64; omega) | omega | (simp <;> omega) | (intros; omega), ?_⟩))))
      (simp only [xec, simprocAttr]; refine ⟨[_, _, _], ⟨rfl, rfl, rfl, trivial⟩, rfl, Imp.eq ?_⟩)
      rfl
    · simp at hr
  · rw [hk] at hG
    cases hq : (prQ m s nx x).2
    · have hF := prQ_full hq
      have hG : Does Try.prog 49 [prA m s, .sl (.ii nx), .int x] (.imm (.tup [.agg [.b (.sl (.k 2 (prQ m s nx x).1.list)), .b (.sl (.ki 3 (eg3 (prQ m s nx x).1.rows))), .b (.val (.bool false))], .one (.b (.val (.bool true)))])) := by
        have hG2 := hG
        unfold prAv at hG2
        rw [hq] at hG2
        exact hG2
      have hcy : cyc m s nx x a = bif !ratioB a then none else findC a (egs (prQ m s nx x).1.rows) s.length (prQ m s nx x).1.list.length := by unfold cyc; rw [hq]; rfl
      rw [hcy]
      generalize (prQ m s nx x).1 = g at hG hF
      have hle := hF.le
      refine spec_imm Try.func33 rfl Try.ntmps33 cfOK (fun _ _ => by kernel_rfl) rfl (Nat.le_of_ble_eq_true rfl) ?_
      intro M0 w0
      rw [Try.results33]
      (repeat (first | refine g1 ?_ | refine g2 ?_ | ((first | refine g3 ?_ | refine g4 ?_ | refine g5 ?_); try simp only [xq, simprocAttr]) | ((first | refine g6 ?_ | refine g7 ?_); simp only [xr, simprocAttr]; repeat (guard_target =~ _ ∧ _; refine ⟨by first | trivial | (unfold I64; omega) | omega | (simp <;> omega) | (intros; omega), ?_⟩))))
      ((try refine Or.inl ?_); refine ⟨_, (hG), .inr (by and_intros <;> first | rfl | (simp; done)), ?_⟩; (try simp only [xr, simprocAttr]); repeat (guard_target =~ _ ∧ _; refine ⟨by first | trivial | (unfold I64; omega) | omega | (simp <;> omega) | (intros; omega), ?_⟩))
      (repeat (first | refine g1 ?_ | refine g2 ?_ | ((first | refine g3 ?_ | refine g4 ?_ | refine g5 ?_); try simp only [xq, simprocAttr]) | ((first | refine g6 ?_ | refine g7 ?_); simp only [xr, simprocAttr]; repeat (guard_target =~ _ ∧ _; refine ⟨by first | trivial | (unfold I64; omega) | omega | (simp <;> omega) | (intros; omega), ?_⟩))))
      ((try refine Or.inl ?_); refine ⟨_, (l9Ratio_d a), .inl rfl, ?_⟩; (try simp only [xr, simprocAttr]); repeat (guard_target =~ _ ∧ _; refine ⟨by first | trivial | (unfold I64; omega) | omega | (simp <;> omega) | (intros; omega), ?_⟩))
      (repeat (first | refine g1 ?_ | refine g2 ?_ | ((first | refine g3 ?_ | refine g4 ?_ | refine g5 ?_); try simp only [xq, simprocAttr]) | ((first | refine g6 ?_ | refine g7 ?_); simp only [xr, simprocAttr]; repeat (guard_target =~ _ ∧ _; refine ⟨by first | trivial | (unfold I64; omega) | omega | (simp <;> omega) | (intros; omega), ?_⟩))))
      cases hra : ratioB a
      · refine awp_cond (by first | rfl | (simp only [xr, simprocAttr]; rfl)) (fun hr => ?_) (fun hr => ?_)
        · (repeat (first | refine g1 ?_ | refine g2 ?_ | ((first | refine g3 ?_ | refine g4 ?_); try simp only [xq, simprocAttr]) | ((first | refine g6 ?_ | refine g7 ?_); simp only [xr, simprocAttr]; repeat (guard_target =~ _ ∧ _; refine ⟨by first | trivial | (unfold I64; omega) | omega | (simp <;> omega) | (intros; omega), ?_⟩))))
          (refine awp_frz 3 rfl ?_; simp only [xz, simprocAttr])
          (repeat (first | refine g1 ?_ | refine g2 ?_ | ((first | refine g3 ?_ | refine g4 ?_ | refine g5 ?_); try simp only [xq, simprocAttr]) | ((first | refine g6 ?_ | refine g7 ?_); simp only [xr, simprocAttr]; repeat (guard_target =~ _ ∧ _; refine ⟨by first | trivial | (unfold I64; omega) | omega | (simp <;> omega) | (intros; omega), ?_⟩))))
          (simp only [xec, simprocAttr]; refine ⟨[_, _, _], ⟨rfl, rfl, rfl, trivial⟩, rfl, Imp.eq ?_⟩)
          rfl
        · simp at hr
      refine awp_cond (by first | rfl | (simp only [xr, simprocAttr]; rfl)) (fun hr => ?_) (fun hr => ?_)
      · simp at hr
      (repeat (first | refine g1 ?_ | refine g2 ?_ | ((first | refine g3 ?_ | refine g4 ?_ | refine g5 ?_); try simp only [xq, simprocAttr]) | ((first | refine g6 ?_ | refine g7 ?_); simp only [xr, simprocAttr]; repeat (guard_target =~ _ ∧ _; refine ⟨by first | trivial | (unfold I64; omega) | omega | (simp <;> omega) | (intros; omega), ?_⟩))))
      refine awp_rounds (α := Nat) (fun i => [(13, true, .int ((i + 1 : Nat) : Int))]) [7, 8, 10, 11] (fun _ => [.box [.b (.sl (.ii m)), .b (.sl (.ii s))], .box [.b (.val (.int .i64 a.1)), .b (.val (.int .i64 a.2))], .box [.b (.sl (.k 2 g.list)), .b (.sl (.ki 3 (eg3 g.rows))), .b (.val (.bool false))]]) (fun i => i ≤ 6 ∧ (List.range i).findSome? (fun i => findN a (egs g.rows) s.length g.list.length (i + 1)) = none) (fun i => 6 - i) 0 (by ((try simp only [xk]); (repeat (refine leK_cons ?_ ?_; first | (focus (first | rfl | (simp only [xr, simprocAttr]; done) | (simp only [xr, simprocAttr]; refine int_eq1 ?_; first | trivial | (unfold I64; omega) | omega | (simp <;> omega) | (intros; omega)))) | rotate_left)); (refine leK_nil ?_; exact (by rfl)); (all_goals (try (simp only [xr, simprocAttr]; try refine int_eq1 ?_))))) ⟨by omega, rfl⟩ fun i hi => ?_
      obtain ⟨hi, hno⟩ := hi
      simp only [xr, simprocAttr]
      (repeat (first | refine g1 ?_ | refine g2 ?_ | ((first | refine g3 ?_ | refine g4 ?_ | refine g5 ?_); try simp only [xq, simprocAttr]) | ((first | refine g6 ?_ | refine g7 ?_); simp only [xr, simprocAttr]; repeat (guard_target =~ _ ∧ _; refine ⟨by first | trivial | (unfold I64; omega) | omega | (simp <;> omega) | (intros; omega), ?_⟩))))
      refine awp_cond (by first | rfl | (simp only [xr, simprocAttr]; rfl)) (fun hc => ?_) (fun hc => ?_)
      · have hc := of_decide_eq_true hc
        (repeat (first | refine g1 ?_ | refine g2 ?_ | ((first | refine g3 ?_ | refine g4 ?_ | refine g5 ?_); try simp only [xq, simprocAttr]) | ((first | refine g6 ?_ | refine g7 ?_); simp only [xr, simprocAttr]; repeat (guard_target =~ _ ∧ _; refine ⟨by first | trivial | (unfold I64; omega) | omega | (simp <;> omega) | (intros; omega), ?_⟩))))
        refine awp_rounds (α := Nat) (fun p => [(14, true, .int p)]) [7, 8, 10, 11, 13] (fun _ => [.box [.b (.sl (.ii m)), .b (.sl (.ii s))], .box [.b (.val (.int .i64 a.1)), .b (.val (.int .i64 a.2))], .box [.b (.sl (.k 2 g.list)), .b (.sl (.ki 3 (eg3 g.rows))), .b (.val (.bool false))]]) (fun p => p ≤ g.list.length ∧ (List.range p).findSome? (fun p => (firstS s.length (i + 1) (goodE a (egs g.rows) s.length p)).map fun w => (p, w)) = none) (fun p => g.list.length - p) 0 (by ((try simp only [xk]); (repeat (refine leK_cons ?_ ?_; first | (focus (first | rfl | (simp only [xr, simprocAttr]; done) | (simp only [xr, simprocAttr]; refine int_eq1 ?_; first | trivial | (unfold I64; omega) | omega | (simp <;> omega) | (intros; omega)))) | rotate_left)); (refine leK_nil ?_; exact (by rfl)); (all_goals (try (simp only [xr, simprocAttr]; try refine int_eq1 ?_))))) ⟨by omega, rfl⟩ fun p hp => ?_
        obtain ⟨hp, hnp⟩ := hp
        simp only [xr, simprocAttr]
        (repeat (first | refine g1 ?_ | refine g2 ?_ | ((first | refine g3 ?_ | refine g4 ?_ | refine g5 ?_); try simp only [xq, simprocAttr]) | ((first | refine g6 ?_ | refine g7 ?_); simp only [xr, simprocAttr]; repeat (guard_target =~ _ ∧ _; refine ⟨by first | trivial | (unfold I64; omega) | omega | (simp <;> omega) | (intros; omega), ?_⟩))))
        refine awp_cond (by first | rfl | (simp only [xr, simprocAttr]; rfl)) (fun hd => ?_) (fun hd => ?_)
        · have hd := of_decide_eq_true hd
          have hpl : p < g.list.length := by omega
          have hL := l9Find_d hF hra hpl (i + 1) (by omega) p 0 hpl (by omega) (by omega)
          rw [restE_0] at hL
          (repeat (first | refine g1 ?_ | refine g2 ?_ | ((first | refine g3 ?_ | refine g4 ?_ | refine g5 ?_); try simp only [xq, simprocAttr]) | ((first | refine g6 ?_ | refine g7 ?_); simp only [xr, simprocAttr]; repeat (guard_target =~ _ ∧ _; refine ⟨by first | trivial | (unfold I64; omega) | omega | (simp <;> omega) | (intros; omega), ?_⟩))))
          cases hfs : firstS s.length (i + 1) (goodE a (egs g.rows) s.length p) with
          | none =>
            rw [hfs] at hL
            have hL : Does _ _ _ (.imm (.tup [.one (.b (.sl (.ints []))), .one (.b (.val (.bool false)))])) := hL
            ((try refine Or.inl ?_); refine ⟨_, (hL), .inr (by and_intros <;> first | rfl | (simp; done)), ?_⟩; (try simp only [xr, simprocAttr]); repeat (guard_target =~ _ ∧ _; refine ⟨by first | trivial | (unfold I64; omega) | omega | (simp <;> omega) | (intros; omega), ?_⟩))
            (repeat (first | refine g1 ?_ | refine g2 ?_ | ((first | refine g3 ?_ | refine g4 ?_ | refine g5 ?_); try simp only [xq, simprocAttr]) | ((first | refine g6 ?_ | refine g7 ?_); simp only [xr, simprocAttr]; repeat (guard_target =~ _ ∧ _; refine ⟨by first | trivial | (unfold I64; omega) | omega | (simp <;> omega) | (intros; omega), ?_⟩))))
            refine awp_cond (by first | rfl | (simp only [xr, simprocAttr]; rfl)) (fun hz => ?_) (fun hz => ?_)
            · cases hz
            (repeat (first | refine g1 ?_ | refine g2 ?_ | ((first | refine g3 ?_ | refine g4 ?_ | refine g5 ?_); try simp only [xq, simprocAttr]) | ((first | refine g6 ?_ | refine g7 ?_); simp only [xr, simprocAttr]; repeat (guard_target =~ _ ∧ _; refine ⟨by first | trivial | (unfold I64; omega) | omega | (simp <;> omega) | (intros; omega), ?_⟩))))
            refine ⟨p + 1, by omega, fs_step hnp (by rw [hfs]; rfl), by omega, .inl ?_⟩
            ((try simp only [xk]); (repeat (refine leK_cons ?_ ?_; first | (focus (first | rfl | (simp only [xr, simprocAttr]; done) | (simp only [xr, simprocAttr]; refine int_eq1 ?_; first | trivial | (unfold I64; omega) | omega | (simp <;> omega) | (intros; omega)))) | rotate_left)); (refine leK_nil ?_; exact (by rfl)); (all_goals (try (simp only [xr, simprocAttr]; try refine int_eq1 ?_))))
          | some w =>
            have hfin : findC a (egs g.rows) s.length g.list.length = some (p, w) := fs_hit (k := i) (by omega) hno (fs_hit hpl hnp (by rw [hfs]; rfl))
            rw [hfs] at hL
            rw [hfin]
            have hL : Does _ _ _ (.imm (.tup [.one (.b (.sl (.ints w))), .one (.b (.val (.bool true)))])) := hL
            ((try refine Or.inl ?_); refine ⟨_, (hL), .inr (by and_intros <;> first | rfl | (simp; done)), ?_⟩; (try simp only [xr, simprocAttr]); repeat (guard_target =~ _ ∧ _; refine ⟨by first | trivial | (unfold I64; omega) | omega | (simp <;> omega) | (intros; omega), ?_⟩))
            (repeat (first | refine g1 ?_ | refine g2 ?_ | ((first | refine g3 ?_ | refine g4 ?_ | refine g5 ?_); try simp only [xq, simprocAttr]) | ((first | refine g6 ?_ | refine g7 ?_); simp only [xr, simprocAttr]; repeat (guard_target =~ _ ∧ _; refine ⟨by first | trivial | (unfold I64; omega) | omega | (simp <;> omega) | (intros; omega), ?_⟩))))
            refine awp_cond (by first | rfl | (simp only [xr, simprocAttr]; rfl)) (fun hz => ?_) (fun hz => ?_)
            · (repeat (first | refine g1 ?_ | refine g2 ?_ | ((first | refine g3 ?_ | refine g4 ?_ | refine g5 ?_); try simp only [xq, simprocAttr]) | ((first | refine g6 ?_ | refine g7 ?_); simp only [xr, simprocAttr]; repeat (guard_target =~ _ ∧ _; refine ⟨by first | trivial | (unfold I64; omega) | omega | (simp <;> omega) | (intros; omega), ?_⟩))))
              (simp only [xec, simprocAttr]; refine ⟨[_, _, _], ⟨rfl, rfl, rfl, trivial⟩, rfl, Imp.eq ?_⟩)
              rfl
            · cases hz
        · have hd := of_decide_eq_false hd
          obtain rfl : p = g.list.length := by omega
          (repeat (first | refine g1 ?_ | refine g2 ?_ | ((first | refine g3 ?_ | refine g4 ?_ | refine g5 ?_); try simp only [xq, simprocAttr]) | ((first | refine g6 ?_ | refine g7 ?_); simp only [xr, simprocAttr]; repeat (guard_target =~ _ ∧ _; refine ⟨by first | trivial | (unfold I64; omega) | omega | (simp <;> omega) | (intros; omega), ?_⟩))))
          refine ⟨i + 1, by omega, fs_step hno hnp, by omega, .inl ?_⟩
          ((try simp only [xk]); (repeat (refine leK_cons ?_ ?_; first | (focus (first | rfl | (simp only [xr, simprocAttr]; done) | (simp only [xr, simprocAttr]; refine int_eq1 ?_; first | trivial | (unfold I64; omega) | omega | (simp <;> omega) | (intros; omega)))) | rotate_left)); (refine leK_nil ?_; exact (by rfl)); (all_goals (try (simp only [xr, simprocAttr]; try refine int_eq1 ?_))))
      · have hc := of_decide_eq_false hc
        obtain rfl : i = 6 := by omega
        rw [show findC a (egs g.rows) s.length g.list.length = none from hno]
        (repeat (first | refine g1 ?_ | refine g2 ?_ | ((first | refine g3 ?_ | refine g4 ?_); try simp only [xq, simprocAttr]) | ((first | refine g6 ?_ | refine g7 ?_); simp only [xr, simprocAttr]; repeat (guard_target =~ _ ∧ _; refine ⟨by first | trivial | (unfold I64; omega) | omega | (simp <;> omega) | (intros; omega), ?_⟩))))
        (refine awp_frz 3 rfl ?_; simp only [xz, simprocAttr])
        (repeat (first | refine g1 ?_ | refine g2 ?_ | ((first | refine g3 ?_ | refine g4 ?_ | refine g5 ?_); try simp only [xq, simprocAttr]) | ((first | refine g6 ?_ | refine g7 ?_); simp only [xr, simprocAttr]; repeat (guard_target =~ _ ∧ _; refine ⟨by first | trivial | (unfold I64; omega) | omega | (simp <;> omega) | (intros; omega), ?_⟩))))
        (simp only [xec, simprocAttr]; refine ⟨[_, _, _], ⟨rfl, rfl, rfl, trivial⟩, rfl, Imp.eq ?_⟩)
        rfl
    · have hG : Does Try.prog 49 [prA m s, .sl (.ii nx), .int x] (.imm (.tup [.agg [.b (.sl (.k 2 (prQ m s nx x).1.list)), .b (.sl (.ki 3 (eg3 (prQ m s nx x).1.rows))), .b (.val (.bool true))], .one (.b (.val (.bool false)))])) := by
        have hG2 := hG
        unfold prAv at hG2
        rw [hq] at hG2
        exact hG2
      have hcy : cyc m s nx x a = none := by unfold cyc; rw [hq]; rfl
      rw [hcy]
      refine spec_imm Try.func33 rfl Try.ntmps33 cfOK (fun _ _ => by kernel_rfl) rfl (Nat.le_of_ble_eq_true rfl) ?_
      intro M0 w0
      rw [Try.results33]
      (repeat (first | refine g1 ?_ | refine g2 ?_ | ((first | refine g3 ?_ | refine g4 ?_ | refine g5 ?_); try simp only [xq, simprocAttr]) | ((first | refine g6 ?_ | refine g7 ?_); simp only [xr, simprocAttr]; repeat (guard_target =~ _ ∧ _; refine ⟨by first | trivial | (unfold I64; omega) | omega | (simp <;> omega) | (intros; omega), ?_⟩))))
      ((try refine Or.inl ?_); refine ⟨_, (hG), .inr (by and_intros <;> first | rfl | (simp; done)), ?_⟩; (try simp only [xr, simprocAttr]); repeat (guard_target =~ _ ∧ _; refine ⟨by first | trivial | (unfold I64; omega) | omega | (simp <;> omega) | (intros; omega), ?_⟩))
      (repeat (first | refine g1 ?_ | refine g2 ?_ | ((first | refine g3 ?_ | refine g4 ?_ | refine g5 ?_); try simp only [xq, simprocAttr]) | ((first | refine g6 ?_ | refine g7 ?_); simp only [xr, simprocAttr]; repeat (guard_target =~ _ ∧ _; refine ⟨by first | trivial | (unfold I64; omega) | omega | (simp <;> omega) | (intros; omega), ?_⟩))))
      refine .inl ⟨AV.bool false, .inl rfl, ?_⟩
      simp only [xr, simprocAttr]
      (repeat (first | refine g1 ?_ | refine g2 ?_ | ((first | refine g3 ?_ | refine g4 ?_ | refine g5 ?_); try simp only [xq, simprocAttr]) | ((first | refine g6 ?_ | refine g7 ?_); simp only [xr, simprocAttr]; repeat (guard_target =~ _ ∧ _; refine ⟨by first | trivial | (unfold I64; omega) | omega | (simp <;> omega) | (intros; omega), ?_⟩))))
      refine awp_cond (by first | rfl | (simp only [xr, simprocAttr]; rfl)) (fun hr => ?_) (fun hr => ?_)
      · (repeat (first | refine g1 ?_ | refine g2 ?_ | ((first | refine g3 ?_ | refine g4 ?_); try simp only [xq, simprocAttr]) | ((first | refine g6 ?_ | refine g7 ?_); simp only [xr, simprocAttr]; repeat (guard_target =~ _ ∧ _; refine ⟨by first | trivial | (unfold I64; omega) | omega | (simp <;> omega) | (intros; omega), ?_⟩))))
        (refine awp_frz 3 rfl ?_; simp only [xz, simprocAttr])
        (repeat (first | refine g1 ?_ | refine g2 ?_ | ((first | refine g3 ?_ | refine g4 ?_ | refine g5 ?_); try simp only [xq, simprocAttr]) | ((first | refine g6 ?_ | refine g7 ?_); simp only [xr, simprocAttr]; repeat (guard_target =~ _ ∧ _; refine ⟨by first | trivial | (unfold I64; omega) | omega | (simp <;> omega) | (intros; omega), ?_⟩))))
        (simp only [xec, simprocAttr]; refine ⟨[_, _, _], ⟨rfl, rfl, rfl, trivial⟩, rfl, Imp.eq ?_⟩)
        rfl
      · simp at hr
theorem spec_FindCycle_d (m s nx : List (List Int)) (x : Int) (a : Int × Int) : Does Try.prog 33 [prA m s, .sl (.ii nx), .int x, frA a] (.imm (.tup [.one (.b (.val (.int .i64 (if cyB m s nx x a = true then cyP m s nx x a else 0)))), .one (.b (.sl (.ints (if cyB m s nx x a = true then cyW m s nx x a else [])))), .one (.b (.val (.bool (cyB m s nx x a))))])) := by
  have h := spec_FindCycle_v m s nx x a
  unfold cyB cyP cyW
  cases hc : cyc m s nx x a with
  | none => rw [hc] at h; exact h
  | some o => rw [hc] at h; exact h
end Go.Proofs.Ytiaddmelbonhcaa
