/- BestMemoryless of the program, on the machine. Conditions: none. -/
import Derived.Test.YtlhdeofkhajigaaGBM
import Derived.Test.YtlhdeofkhajigaaGEX
import Derived.Test.YtlhdeofkhajigaaGCM
import Derived.Test.YtlhdeofkhajigaaGLD
import Derived.Test.YtlhdeofkhajigaaMarkSz
set_option linter.all false
set_option linter.unusedSimpArgs false
set_option linter.unusedVariables false
namespace Go.Proofs.Ytlhdeofkhajigaa
open Go Go.RowKit Am

/-- is a ratio less than the least one so far -/
def betB (v : (Int × Int) × Bool) : Option (Nat × (Int × Int)) → Bool
  | none => v.2
  | some p => v.2 && decide (v.1.1 * p.2.2 < p.2.1 * v.1.2)
def bstP (V : Nat → (Int × Int) × Bool) : Nat → Option (Nat × (Int × Int))
  | 0 => none
  | k + 1 => if betB (V k) (bstP V k) = true then some (k, (V k).1) else bstP V k
def RtOK (a : Int × Int) : Prop := 0 ≤ a.1 ∧ a.1 ≤ 71400 ∧ 1 ≤ a.2 ∧ a.2 ≤ 71400
theorem bstP_ok {V : Nat → (Int × Int) × Bool} : ∀ {k : Nat} {p : Nat × (Int × Int)}, bstP V k = some p → p.1 < k ∧ (V p.1).2 = true ∧ p.2 = (V p.1).1
  | 0, _, h => by cases h
  | k + 1, p, h => by
    unfold bstP at h
    split at h
    · rename_i hb
      cases h
      refine ⟨by simp, ?_, rfl⟩
      unfold betB at hb
      split at hb
      · exact hb
      · rw [Bool.and_eq_true] at hb; exact hb.1
    · obtain ⟨h1, h2⟩ := bstP_ok h
      exact ⟨by omega, h2⟩
theorem exB_ok {m s nx : List (List Int)} {x : Int} (h : (exB m s nx x).2 = true) : RtOK (exB m s nx x).1 := by
  unfold exB at h ⊢
  cases hq : (prQ m s nx x).2
  · rw [hq] at h
    have h : (exV (exO (egs (prQ m s nx x).1.rows))).2 = true := h
    have hok := exO_ok (eg_B (prQ_full hq))
    show RtOK (exV (exO (egs (prQ m s nx x).1.rows))).1
    cases ho : exO (egs (prQ m s nx x).1.rows) with
    | none => rw [ho] at h; cases h
    | some p =>
      obtain ⟨a, b⟩ := p
      have h1 := hok.2 a b ho
      exact ⟨h1.na, h1.ma, h1.nb, h1.mb⟩
  · rw [hq] at h; cases h
abbrev bsH (m s : List (List Int)) (l : List Int) : Option (Nat × (Int × Int)) → List Ob
  | none => [.box [.b (.sl (.ii m)), .b (.sl (.ii s))], .box [.b (.val (.int .i64 0)), .b (.val (.int .i64 0))], .box [.b (.val (.int .i64 0)), .b (.val (.int .i64 0))], .tree [29, 3] (.ii (rowsP s.length m.length l))]
  | some p => [.box [.b (.sl (.ii m)), .b (.sl (.ii s))], .box [.b (.val (.int .i64 0)), .b (.val (.int .i64 0))], .box [.b (.val (.int .i64 p.2.1)), .b (.val (.int .i64 p.2.2))], .tree [29, 3] (.ii (rowsP s.length m.length l)), .tree [29, 3] (.ii (algT m s p.1))]
abbrev bsV : Option (Nat × (Int × Int)) → AV
  | none => .val (.slice none 0 0)
  | some _ => .lf (.own 4)
abbrev bsK (s : List (List Int)) (y : Nat) : List (Nat × Bool × AV) := [(1, true, .int y), (2, true, .lf (.ptr 0 0)), (5, true, .lf (.ptr 1 0)), (8, true, .lf (.ptr 2 0)), (9, true, .int s.length), (10, true, .lf (.own 3))]
theorem tabF_rows {m s : List (List Int)} (hp : probB m s = true) : tabF m.length s.length (fun _ r => (srv s m.length r).getD 0 0) = algT m s 0 := by
  have hl := prob_len hp
  unfold tabF algT
  rw [alg_zero hp]
  unfold rowsP
  refine List.ext_getElem (by simp) fun i h1 h2 => ?_
  have hi : i < m.length := by simpa using h1
  have hm := mulK (K := s.length) hi
  simp only [List.getElem_map, List.getElem_range]
  refine List.ext_getElem (by simp; omega) fun r h3 h4 => ?_
  have hr : r < s.length := by simpa using h3
  simp only [List.getElem_map, List.getElem_range, List.getElem_take, List.getElem_drop]
  unfold opP
  rw [Nat.mul_comm, Nat.mul_add_mod, Nat.mod_eq_of_lt hr]
set_option maxRecDepth 8000 in
set_option maxHeartbeats 8000000 in
theorem best_h {m s : List (List Int)} {y : Nat} (hp : probB m s = true) (hy : y < m.length) (ht : takesB m s y [] = true) (hN : algN m s ≤ 300) {V : Nat → (Int × Int) × Bool} (hV : ∀ j, V j = exB m s (algT m s j) y) :
    DoesH Try.prog 27 [prA m s, .int y] [] [] (match bstP V (algN m s) with | none => .tup [.one (.b (.val (.slice none 0 0))), frT (0, 0), blT false] | some p => .tup [.one (.own 0), frT p.2, blT true]) (match bstP V (algN m s) with | none => [] | some p => [.tree [29, 3] (.ii (algT m s p.1))]) := by
  have hl := prob_len hp
  have hkn := kn_bd hp
  have hNp := algN_pos hp
  refine spec_hB Try.func27 rfl Try.ntmps27 cfOK (fun _ _ => by kernel_rfl) rfl rfl rfl ?_
  intro M0 w0 S φ0
  rw [Try.results27]
  refine amGo ?_
  ((try refine Or.inl ?_); refine ⟨_, (isStarted_n _ _ _), .inl rfl, ?_⟩; refine amC ?_)
  rw [ht]
  refine amGo ?_
  ((try refine Or.inl ?_); refine ⟨_, (fun _ => countAlgorithms_d hp), .inl rfl, ?_⟩; refine amC ?_)
  refine amGo ?_
  refine awp_cond amQ (fun hz => ?_) (fun hz => ?_)
  · simp at hz
    omega
  refine amGo ?_
  (refine .inr (.inl (callW_b (algorithmBy_h hp (F := fun _ r => (srv s m.length r).getD 0 0) fun i r _ hr => best1_d hp i r hr) rfl rfl rfl rfl rfl rfl rfl ?_)); refine amC ?_)
  rw [tabF_rows hp]
  refine amGo ?_
  refine awp_rounds (α := Nat × Option (Nat × (Int × Int))) (fun q => [(7, true, bsV q.2)]) [1, 2, 5, 8, 9, 10] (fun q => bsH m s (algL m s q.1) q.2) (fun q => q.1 < algN m s ∧ q.2 = bstP V q.1) (fun q => algN m s - q.1) (0, none) (by ((try simp only [xk]); (repeat (refine leK_cons ?_ ?_; first | (exact amE) | rotate_left)); (refine leK_nil ?_; exact (by rfl)); (all_goals (try (simp only [xr, simprocAttr]; try refine int_eq1 ?_))))) ⟨hNp, rfl⟩ fun q hq => ?_
  obtain ⟨j, o⟩ := q
  obtain ⟨hj, ho⟩ := hq
  simp only at hj ho
  have hP := pairsOf_h m s (algT m s j) y
  have htr : ∀ r ∈ algT m s j, r.length ≤ 100 := fun r hr => by
    obtain ⟨i, hi, rfl⟩ := List.mem_iff_getElem.1 hr
    have hi' : i < m.length := by unfold algT at hi; rw [rowsP_len] at hi; exact hi
    have h1 := rowsP_rlen (K := s.length) (algL_len hj) hi'
    rw [getD_in (by rw [rowsP_len]; exact hi')] at h1
    have h2 : (algT m s j)[i].length = s.length := h1
    omega
  refine g2 ?_
  refine g1 ?_
  refine awp_meet ⟨tab ((7, true, bsV (bstP V (j + 1))) :: bsK s y), bsH m s (algL m s j) (bstP V (j + 1))⟩ ?_ ?_
  · cases o with
    | none =>
      dsimp only [bsH, bsV]
      simp only [xr, simprocAttr]
      · cases hq : (prQ m s (algT m s j) y).2
        · have hF := prQ_full hq
          have hex : V j = exV (exO (egs (prQ m s (algT m s j) y).1.rows)) := by rw [hV j]; unfold exB; rw [hq]; rfl
          rw [show prR (prQ m s (algT m s j) y) = .tup [.one (.ptr 0 0), .one (.b (.val (.bool true)))] by unfold prR; rw [hq]; rfl, show prO s.length (prQ m s (algT m s j) y) = [.box [.own 1, .own 2, .b (.val (.int .i64 s.length))], .row 88 (.k 2 (prQ m s (algT m s j) y).1.list), .row 95 (.k 4 (egs (prQ m s (algT m s j) y).1.rows))] by unfold prO; rw [hq]; rfl] at hP
          generalize (prQ m s (algT m s j) y).1 = g at hP hF hex
          have hok := exO_ok (eg_B hF)
          have hxd := exact_d (L := g.list) rfl (eg_I hF) hF.pos (eg_c hF) hok.1 hok.2 s.length
          refine amGo ?_
          (refine .inr (.inl (callW_b (hP) rfl rfl rfl rfl rfl rfl rfl ?_)); refine amC ?_)
          refine amGo ?_
          refine awp_cond amQ (fun hr => ?_) (fun hr => ?_)
          · refine amGo ?_
            cases hoE : exO (egs g.rows) with
            | none =>
              rw [hoE] at hxd hex
              have hnx : bstP V (j + 1) = bstP V j := by show (if betB (V j) (bstP V j) = true then some (j, (V j).1) else bstP V j) = bstP V j; rw [if_neg]; rw [hex]; cases bstP V j <;> exact Bool.false_ne_true
              rw [hnx, ← ho]
              have hxd : Does Try.prog 40 [prX g.list (egs g.rows) s.length] (.imm (.tup [frT (0, 0), blT false])) := hxd
              ((try refine Or.inl ?_); refine ⟨_, (hxd), .inl rfl, ?_⟩; refine amC ?_)
              refine amGo ?_
              refine .inl ⟨AV.int 0, .inl rfl, ?_⟩
              simp only [xr, simprocAttr]
              refine amGo ?_
              refine awp_cond amQ (fun hs => ?_) (fun hs => ?_)
              · cases hs
              · refine amGo ?_
                refine lead_T 4 (Nat.le_of_ble_eq_true rfl) (leT_of ?_ rfl rfl rfl)
                ((try simp only [xk]); (repeat (refine leK_cons ?_ ?_; first | (exact amE) | rotate_left)); (refine leK_nil ?_; exact (by rfl)); (all_goals (try (simp only [xr, simprocAttr]; try refine int_eq1 ?_))))
            | some ab =>
              obtain ⟨a, b⟩ := ab
              have hrt := hok.2 a b hoE
              rw [hoE] at hxd hex
              have hxd : Does Try.prog 40 [prX g.list (egs g.rows) s.length] (.imm (.tup [frT (a, b), blT true])) := hxd
              ((try refine Or.inl ?_); refine ⟨_, (hxd), .inl rfl, ?_⟩; refine amC ?_)
              refine amGo ?_
              have hnx : bstP V (j + 1) = some (j, (a, b)) := by
                show (if betB (V j) (bstP V j) = true then some (j, (V j).1) else bstP V j) = _
                rw [hex, ← ho]
                rfl
              rw [hnx]
              refine .inl ⟨AV.int 0, .inl rfl, ?_⟩
              simp only [xr, simprocAttr]
              refine amGo ?_
              refine awp_cond amQ (fun hs => ?_) (fun hs => ?_)
              · (refine amB ?_; refine awp_anyG 1 [(1, [8]), (4, [2])] [8, 2] [(1, [2]), (3, [2]), (4, [8])] ?_; refine amNG ?_)
                (refine .inr (.inl ⟨_, _, callG_b (ownTable_h (algT m s j) (by unfold algT; rw [rowsP_len]; omega) htr) rfl rfl rfl rfl rfl rfl, ?_⟩); refine amTG ?_)
                simp only [xm, simprocAttr]
                refine amSG ?_
                (refine lead_frz 5 rfl ?_; simp only [xz, simprocAttr])
                (refine lead_frz 6 rfl ?_; simp only [xz, simprocAttr])
                (refine lead_frzB 4 rfl rfl ?_; simp only [xzb, simprocAttr])
                (refine lead_mv 4 8 rfl rfl (by decide) rfl rfl ?_; simp only [xm, simprocAttr])
                refine lead_T 5 (Nat.le_of_ble_eq_true rfl) (leT_of ?_ rfl rfl rfl)
                ((try simp only [xk]); (repeat (refine leK_cons ?_ ?_; first | (exact amE) | rotate_left)); (refine leK_nil ?_; exact (by rfl)); (all_goals (try (simp only [xr, simprocAttr]; try refine int_eq1 ?_))))
              · cases hs
          · cases hr
        · have hex : V j = ((0, 0), false) := by rw [hV j]; unfold exB; rw [hq]; rfl
          have hnx : bstP V (j + 1) = bstP V j := by show (if betB (V j) (bstP V j) = true then some (j, (V j).1) else bstP V j) = bstP V j; rw [if_neg]; rw [hex]; cases bstP V j <;> exact Bool.false_ne_true
          rw [hnx, ← ho]
          rw [show prR (prQ m s (algT m s j) y) = .tup [.one (.b (.val (.pointer none))), .one (.b (.val (.bool false)))] by unfold prR; rw [hq]; rfl, show prO s.length (prQ m s (algT m s j) y) = [] by unfold prO; rw [hq]; rfl] at hP
          refine amGo ?_
          (refine .inr (.inl (callW_b (hP) rfl rfl rfl rfl rfl rfl rfl ?_)); refine amC ?_)
          refine amGo ?_
          refine awp_cond amQ (fun hr => ?_) (fun hr => ?_)
          · cases hr
          · refine amGo ?_
            refine lead_K ?_
            ((try simp only [xk]); (repeat (refine leK_cons ?_ ?_; first | (exact amE) | rotate_left)); (refine leK_nil ?_; exact (by rfl)); (all_goals (try (simp only [xr, simprocAttr]; try refine int_eq1 ?_))))
    | some p =>
      have hal : (algT m s p.1).length = m.length := rowsP_len _ _ _
      dsimp only [bsH, bsV]
      simp only [xr, simprocAttr]
      · cases hq : (prQ m s (algT m s j) y).2
        · have hF := prQ_full hq
          have hex : V j = exV (exO (egs (prQ m s (algT m s j) y).1.rows)) := by rw [hV j]; unfold exB; rw [hq]; rfl
          rw [show prR (prQ m s (algT m s j) y) = .tup [.one (.ptr 0 0), .one (.b (.val (.bool true)))] by unfold prR; rw [hq]; rfl, show prO s.length (prQ m s (algT m s j) y) = [.box [.own 1, .own 2, .b (.val (.int .i64 s.length))], .row 88 (.k 2 (prQ m s (algT m s j) y).1.list), .row 95 (.k 4 (egs (prQ m s (algT m s j) y).1.rows))] by unfold prO; rw [hq]; rfl] at hP
          generalize (prQ m s (algT m s j) y).1 = g at hP hF hex
          have hok := exO_ok (eg_B hF)
          have hxd := exact_d (L := g.list) rfl (eg_I hF) hF.pos (eg_c hF) hok.1 hok.2 s.length
          refine amGo ?_
          (refine .inr (.inl (callW_b (hP) rfl rfl rfl rfl rfl rfl rfl ?_)); refine amC ?_)
          refine amGo ?_
          refine awp_cond amQ (fun hr => ?_) (fun hr => ?_)
          · refine amGo ?_
            cases hoE : exO (egs g.rows) with
            | none =>
              rw [hoE] at hxd hex
              have hnx : bstP V (j + 1) = bstP V j := by show (if betB (V j) (bstP V j) = true then some (j, (V j).1) else bstP V j) = bstP V j; rw [if_neg]; rw [hex]; cases bstP V j <;> exact Bool.false_ne_true
              rw [hnx, ← ho]
              have hxd : Does Try.prog 40 [prX g.list (egs g.rows) s.length] (.imm (.tup [frT (0, 0), blT false])) := hxd
              ((try refine Or.inl ?_); refine ⟨_, (hxd), .inl rfl, ?_⟩; refine amC ?_)
              refine amGo ?_
              refine .inl ⟨AV.int 0, .inl rfl, ?_⟩
              simp only [xr, simprocAttr]
              refine amGo ?_
              refine awp_cond amQ (fun hs => ?_) (fun hs => ?_)
              · cases hs
              · refine amGo ?_
                refine lead_T 5 (Nat.le_of_ble_eq_true rfl) (leT_of ?_ rfl rfl rfl)
                ((try simp only [xk]); (repeat (refine leK_cons ?_ ?_; first | (exact amE) | rotate_left)); (refine leK_nil ?_; exact (by rfl)); (all_goals (try (simp only [xr, simprocAttr]; try refine int_eq1 ?_))))
            | some ab =>
              obtain ⟨a, b⟩ := ab
              have hrt := hok.2 a b hoE
              rw [hoE] at hxd hex
              have hxd : Does Try.prog 40 [prX g.list (egs g.rows) s.length] (.imm (.tup [frT (a, b), blT true])) := hxd
              ((try refine Or.inl ?_); refine ⟨_, (hxd), .inl rfl, ?_⟩; refine amC ?_)
              refine amGo ?_
              have hrp : RtOK p.2 := by rw [(bstP_ok ho.symm).2.2, hV]; exact exB_ok (by rw [← hV]; exact (bstP_ok ho.symm).2.1)
              obtain ⟨r1, r2, r3, r4⟩ := hrp
              have a1 := hrt.na
              have a2 := hrt.ma
              have a3 := hrt.nb
              have a4 := hrt.mb
              have q5 : 0 ≤ a * p.2.2 ∧ a * p.2.2 ≤ 71400 * 71400 := ⟨Int.mul_nonneg a1 (by omega), Int.mul_le_mul a2 r4 (by omega) (by decide)⟩
              have q6 : 0 ≤ p.2.1 * b ∧ p.2.1 * b ≤ 71400 * 71400 := ⟨Int.mul_nonneg r1 (by omega), Int.mul_le_mul r2 a4 (by omega) (by decide)⟩
              have hcm := compareFracs_d (a, b) p.2 (by show I64 (a * p.2.2); unfold I64; omega) (by show I64 (p.2.1 * b); unfold I64; omega)
              have hcv : cmpQ ((a, b).1 * p.2.2) (p.2.1 * (a, b).2) < 0 ↔ a * p.2.2 < p.2.1 * b := by
                show cmpQ (a * p.2.2) (p.2.1 * b) < 0 ↔ _
                unfold cmpQ
                split
                · simp; omega
                · split <;> simp <;> omega
              generalize cmpQ ((a, b).1 * p.2.2) (p.2.1 * (a, b).2) = cv at hcm hcv
              ((try refine Or.inl ?_); refine ⟨_, (hcm), .inl rfl, ?_⟩; refine amC ?_)
              refine amGo ?_
              refine awp_cond amQ (fun hs => ?_) (fun hs => ?_)
              · have hs : cv < 0 := by simpa using hs
                have hnx : bstP V (j + 1) = some (j, (a, b)) := by
                  show (if betB (V j) (bstP V j) = true then some (j, (V j).1) else bstP V j) = _
                  rw [hex, ← ho, if_pos]
                  · rfl
                  · show (true && decide (a * p.2.2 < p.2.1 * b)) = true
                    rw [decide_eq_true (hcv.1 hs)]
                    rfl
                rw [hnx]
                (refine amB ?_; refine awp_anyG 1 [(1, [9]), (4, [2])] [9, 2] [(1, [2]), (3, [2]), (4, [9])] ?_; refine amNG ?_)
                (refine .inr (.inl ⟨_, _, callG_b (ownTable_h (algT m s j) (by unfold algT; rw [rowsP_len]; omega) htr) rfl rfl rfl rfl rfl rfl, ?_⟩); refine amTG ?_)
                simp only [xm, simprocAttr]
                refine amSG ?_
                (refine lead_frzT 4 rfl ?_; simp only [xz, simprocAttr])
                (refine lead_mv 4 9 rfl rfl (by decide) rfl rfl ?_; simp only [xm, simprocAttr])
                refine lead_T 5 (Nat.le_of_ble_eq_true rfl) (leT_of ?_ rfl rfl rfl)
                ((try simp only [xk]); (repeat (refine leK_cons ?_ ?_; first | (exact amE) | rotate_left)); (refine leK_nil ?_; exact (by rfl)); (all_goals (try (simp only [xr, simprocAttr]; try refine int_eq1 ?_))))
              · have hs : ¬ cv < 0 := by simpa using hs
                have hnx : bstP V (j + 1) = some p := by
                  show (if betB (V j) (bstP V j) = true then some (j, (V j).1) else bstP V j) = _
                  rw [hex, ← ho, if_neg]
                  show ¬ (true && decide (a * p.2.2 < p.2.1 * b)) = true
                  rw [decide_eq_false fun h => hs (hcv.2 h)]
                  exact Bool.false_ne_true
                rw [hnx]
                refine amGo ?_
                refine lead_T 5 (Nat.le_of_ble_eq_true rfl) (leT_of ?_ rfl rfl rfl)
                ((try simp only [xk]); (repeat (refine leK_cons ?_ ?_; first | (exact amE) | rotate_left)); (refine leK_nil ?_; exact (by rfl)); (all_goals (try (simp only [xr, simprocAttr]; try refine int_eq1 ?_))))
          · cases hr
        · have hex : V j = ((0, 0), false) := by rw [hV j]; unfold exB; rw [hq]; rfl
          have hnx : bstP V (j + 1) = bstP V j := by show (if betB (V j) (bstP V j) = true then some (j, (V j).1) else bstP V j) = bstP V j; rw [if_neg]; rw [hex]; cases bstP V j <;> exact Bool.false_ne_true
          rw [hnx, ← ho]
          rw [show prR (prQ m s (algT m s j) y) = .tup [.one (.b (.val (.pointer none))), .one (.b (.val (.bool false)))] by unfold prR; rw [hq]; rfl, show prO s.length (prQ m s (algT m s j) y) = [] by unfold prO; rw [hq]; rfl] at hP
          refine amGo ?_
          (refine .inr (.inl (callW_b (hP) rfl rfl rfl rfl rfl rfl rfl ?_)); refine amC ?_)
          refine amGo ?_
          refine awp_cond amQ (fun hr => ?_) (fun hr => ?_)
          · cases hr
          · refine amGo ?_
            refine lead_K ?_
            ((try simp only [xk]); (repeat (refine leK_cons ?_ ?_; first | (exact amE) | rotate_left)); (refine leK_nil ?_; exact (by rfl)); (all_goals (try (simp only [xr, simprocAttr]; try refine int_eq1 ?_))))
  clear hP
  obtain ⟨o', ho'⟩ : ∃ o', o' = bstP V (j + 1) := ⟨_, rfl⟩
  rw [← ho']
  have enk : ((m.length : Nat) : Int) * (s.length : Nat) = (m.length * s.length : Nat) := by rw [Int.natCast_mul]
  have i0 : I64 (((m.length : Nat) : Int) * (s.length : Nat)) := by rw [enk]; unfold I64; omega
  have i00 : I64 (((m.length : Nat) : Int) * (s.length : Nat) - 1) := by rw [enk]; unfold I64; omega
  have hnext := alg_next hj
  cases o' with
  | none =>
    dsimp only [bsH, bsV, bsK]
    refine amGo ?_
    rw [enk]
    refine awp_rounds (α := Nat × List Int) (fun q => [(15, true, .int ((q.1 : Int) - 1))]) [1, 2, 5, 7, 8, 9, 10] (fun q => [.box [.b (.sl (.ii m)), .b (.sl (.ii s))], .box [.b (.val (.int .i64 0)), .b (.val (.int .i64 0))], .box [.b (.val (.int .i64 0)), .b (.val (.int .i64 0))]] ++ [.tree [29, 3] (.ii (rowsP s.length m.length q.2))] ++ []) (fun q => q.1 ≤ m.length * s.length ∧ q.2.length = m.length * s.length ∧ (∀ k, k < m.length * s.length → q.2.getD k 0 ∈ opP m s k) ∧ nxtP (opP m s) (whP m s) q.1 q.2 = nxtP (opP m s) (whP m s) (m.length * s.length) (algL m s j)) (fun q => q.1) (m.length * s.length, algL m s j) (by ((try simp only [xk]); (repeat (refine leK_cons ?_ ?_; first | (exact amE) | rotate_left)); (refine leK_nil ?_; exact (by rfl)); (all_goals (try (simp only [xr, simprocAttr]; try refine int_eq1 ?_))))) ⟨Nat.le_refl _, algL_len hj, fun k hk => algL_at hj hk, rfl⟩ fun q hq => ?_
    obtain ⟨p0, l⟩ := q
    obtain ⟨hp1, hp2, hp3, hp4⟩ := hq
    dsimp only at hp1 hp2 hp3 hp4 ⊢
    simp only [List.cons_append, List.nil_append]
    simp only [xr, simprocAttr]
    refine amGo ?_
    refine awp_cond amQ (fun hk => ?_) (fun hk => ?_)
    · have hk := of_decide_eq_true hk
      obtain ⟨k, rfl⟩ : ∃ k, p0 = k + 1 := ⟨p0 - 1, by omega⟩
      have ek : ((k + 1 : Nat) : Int) - 1 = (k : Int) := by omega
      have hK : 0 < s.length := by omega
      have hmod := Nat.mod_lt k hK
      have hdiv : k / s.length < m.length := Nat.div_lt_of_lt_mul (by rw [Nat.mul_comm]; omega)
      have hdm : k / s.length * s.length + k % s.length = k := by rw [Nat.mul_comm]; exact Nat.div_add_mod _ _
      have emod : ((k : Nat) : Int) % (s.length : Nat) = (k % s.length : Nat) := by rw [Int.natCast_emod]
      have ediv : ((k : Nat) : Int) / (s.length : Nat) = (k / s.length : Nat) := by rw [Int.natCast_ediv]
      have hrl := rowsP_rlen (K := s.length) hp2 hdiv
      have hat : ((rowsP s.length m.length l).getD (k / s.length) []).getD (k % s.length) 0 = l.getD k 0 := by rw [rowsP_at hdiv hmod, hdm]
      have hRl := rowsP_len s.length m.length l
      have hop : opP m s k = srv s m.length (k % s.length) := rfl
      have hset := fun x => rowsP_set (K := s.length) hp2 hdiv hmod x
      rw [hdm] at hset
      generalize k / s.length = d at *
      generalize k % s.length = r at *
      rw [ek]
      refine amGo ?_
      rw [emod]
      ((try refine Or.inl ?_); refine ⟨_, (served_d m s r hmod (prob_rows hp _ hmod) (by omega)), amF, ?_⟩; refine amC ?_)
      refine amB ?_
      (refine awp_foc 3 (d) rfl amT ?_; simp only [xr, simprocAttr])
      refine g7 ?_
      simp only [xr, simprocAttr, ediv, emod]
      refine amS ?_
      ((try refine Or.inl ?_); refine ⟨_, (index_d (srv s m.length r) (((rowsP s.length m.length l).getD d []).getD r 0)), .inl rfl, ?_⟩; refine amC ?_)
      have hmem : l.getD k 0 ∈ srv s m.length r := by rw [← hop]; exact hp3 k (by omega)
      obtain ⟨i, hi, hx⟩ := List.mem_iff_getElem.1 hmem
      have hwi : whP m s k (l.getD k 0) = i := by
        rw [← hx, ← getD_in (d := 0) hi, ← hop]
        exact wh_ok k i (by rw [hop]; exact hi)
      have hxi : idxOf (fun y => decide (((rowsP s.length m.length l).getD d []).getD r 0 = y)) (srv s m.length r) = (i : Int) := by
        rw [hat, ← hx, ← getD_in (d := 0) hi]
        exact srv_idx hi
      have hsl : (srv s m.length r).length ≤ 4 := by rw [← hop]; exact op_le hp k
      have hnx : nxtP (opP m s) (whP m s) (k + 1) l = if i + 1 < (opP m s k).length then some (l.set k ((opP m s k).getD (i + 1) 0)) else nxtP (opP m s) (whP m s) k (l.set k ((opP m s k).getD 0 0)) := by
        show (if whP m s k (l.getD k 0) + 1 < (opP m s k).length then some (l.set k ((opP m s k).getD (whP m s k (l.getD k 0) + 1) 0)) else _) = _
        rw [hwi]
      rw [hxi]
      refine amGo ?_
      refine awp_cond amQ (fun hi1 => ?_) (fun hi1 => ?_)
      · have hi1 := of_decide_eq_true hi1
        have h5 := hnx
        rw [if_pos (by rw [hop]; omega), hp4, hnext] at h5
        by_cases hj1 : j + 1 < algN m s
        · rw [if_pos hj1] at h5
          have h6 := Option.some.inj h5
          rw [hop] at h6
          (refine amB ?_; refine awp_anyG 0 [(15, [4])] [4] [(5, []), (14, []), (15, [])] ?_; simp (maxSteps := 3000000) only [xg, ediv, emod, xr, simprocAttr]; refine amSG ?_)
          rw [show ((i : Int) + 1).toNat = i + 1 by omega]
          (refine awp_unf 3 rfl (by decide) rfl rfl amT rfl ?_; simp only [xu, simprocAttr])
          rw [hset, ← h6]
          refine amGo ?_
          refine awp_cond amQ (fun hkz => ?_) (fun hkz => ?_)
          · have hkz := of_decide_eq_true hkz
            omega
          refine amGo ?_
          refine ⟨(j + 1, none), hj1, ho', (by show algN m s - (j + 1) < algN m s - j; omega), .inr ⟨4, Nat.le_of_ble_eq_true rfl, leT_of ?_ rfl rfl rfl⟩⟩
          ((try simp only [xk]); (repeat (refine leK_cons ?_ ?_; first | (exact amE) | rotate_left)); (refine leK_nil ?_; exact (by rfl)); (all_goals (try (simp only [xr, simprocAttr]; try refine int_eq1 ?_))))
        · rw [if_neg hj1] at h5
          cases h5
      · have hi1 := of_decide_eq_false hi1
        have h5 := hnx
        rw [if_neg (by rw [hop]; omega), hp4] at h5
        rw [hop] at h5
        have h0 : 0 < (srv s m.length r).length := by rw [← hop]; exact op_pos hp k
        (refine amB ?_; refine awp_anyG 0 [(13, [4])] [4] [(5, []), (12, []), (13, [])] ?_; simp (maxSteps := 3000000) only [xg, ediv, emod, xr, simprocAttr]; refine amSG ?_)
        (refine awp_unf 3 rfl (by decide) rfl rfl amT rfl ?_; simp only [xu, simprocAttr])
        rw [hset]
        refine amGo ?_
        refine ⟨(k, l.set k ((srv s m.length r).getD 0 0)), (by show k ≤ _; omega), (by show (l.set _ _).length = _; rw [List.length_set]; exact hp2), (fun q hq => ?_), h5.symm, (by show k < k + 1; omega), .inr ⟨4, Nat.le_of_ble_eq_true rfl, leT_of ?_ rfl rfl rfl⟩⟩
        · show (l.set k ((srv s m.length r).getD 0 0)).getD q 0 ∈ _
          rw [set_getD]
          split
          · rename_i hqk
            rw [← hqk.1, hop, getD_in h0]
            exact List.getElem_mem _
          · exact hp3 q hq
        · ((try simp only [xk]); (repeat (refine leK_cons ?_ ?_; first | (exact amE) | rotate_left)); (refine leK_nil ?_; exact (by rfl)); (all_goals (try (simp only [xr, simprocAttr]; try refine int_eq1 ?_))))
    · have hk := of_decide_eq_false hk
      obtain rfl : p0 = 0 := by omega
      have h5 := hp4
      rw [hnext] at h5
      have hfin : algN m s = j + 1 := by
        by_cases hj1 : j + 1 < algN m s
        · rw [if_pos hj1] at h5
          cases h5
        · omega
      rw [hfin, ← ho']
      dsimp only
      refine amGo ?_
      refine awp_cond amQ (fun hkz => ?_) (fun hkz => ?_)
      · skip
        refine amGo ?_
        refine awp_cond amQ (fun hnil => ?_) (fun hnil => ?_)
        · refine amGo ?_
          (simp only [ends_normal, ends_ret]; refine retH_2 (vs := [_, _, _]) [] rfl trivial rfl rfl rfl rfl ⟨rfl, ⟨amK, rfl⟩, rfl, trivial⟩ ?_; try rfl)
        · cases hnil
      · simp at hkz
  | some p =>
    dsimp only [bsH, bsV, bsK]
    refine amGo ?_
    rw [enk]
    refine awp_rounds (α := Nat × List Int) (fun q => [(15, true, .int ((q.1 : Int) - 1))]) [1, 2, 5, 7, 8, 9, 10] (fun q => [.box [.b (.sl (.ii m)), .b (.sl (.ii s))], .box [.b (.val (.int .i64 0)), .b (.val (.int .i64 0))], .box [.b (.val (.int .i64 p.2.1)), .b (.val (.int .i64 p.2.2))]] ++ [.tree [29, 3] (.ii (rowsP s.length m.length q.2))] ++ [.tree [29, 3] (.ii (algT m s p.1))]) (fun q => q.1 ≤ m.length * s.length ∧ q.2.length = m.length * s.length ∧ (∀ k, k < m.length * s.length → q.2.getD k 0 ∈ opP m s k) ∧ nxtP (opP m s) (whP m s) q.1 q.2 = nxtP (opP m s) (whP m s) (m.length * s.length) (algL m s j)) (fun q => q.1) (m.length * s.length, algL m s j) (by ((try simp only [xk]); (repeat (refine leK_cons ?_ ?_; first | (exact amE) | rotate_left)); (refine leK_nil ?_; exact (by rfl)); (all_goals (try (simp only [xr, simprocAttr]; try refine int_eq1 ?_))))) ⟨Nat.le_refl _, algL_len hj, fun k hk => algL_at hj hk, rfl⟩ fun q hq => ?_
    obtain ⟨p0, l⟩ := q
    obtain ⟨hp1, hp2, hp3, hp4⟩ := hq
    dsimp only at hp1 hp2 hp3 hp4 ⊢
    simp only [List.cons_append, List.nil_append]
    simp only [xr, simprocAttr]
    refine amGo ?_
    refine awp_cond amQ (fun hk => ?_) (fun hk => ?_)
    · have hk := of_decide_eq_true hk
      obtain ⟨k, rfl⟩ : ∃ k, p0 = k + 1 := ⟨p0 - 1, by omega⟩
      have ek : ((k + 1 : Nat) : Int) - 1 = (k : Int) := by omega
      have hK : 0 < s.length := by omega
      have hmod := Nat.mod_lt k hK
      have hdiv : k / s.length < m.length := Nat.div_lt_of_lt_mul (by rw [Nat.mul_comm]; omega)
      have hdm : k / s.length * s.length + k % s.length = k := by rw [Nat.mul_comm]; exact Nat.div_add_mod _ _
      have emod : ((k : Nat) : Int) % (s.length : Nat) = (k % s.length : Nat) := by rw [Int.natCast_emod]
      have ediv : ((k : Nat) : Int) / (s.length : Nat) = (k / s.length : Nat) := by rw [Int.natCast_ediv]
      have hrl := rowsP_rlen (K := s.length) hp2 hdiv
      have hat : ((rowsP s.length m.length l).getD (k / s.length) []).getD (k % s.length) 0 = l.getD k 0 := by rw [rowsP_at hdiv hmod, hdm]
      have hRl := rowsP_len s.length m.length l
      have hop : opP m s k = srv s m.length (k % s.length) := rfl
      have hset := fun x => rowsP_set (K := s.length) hp2 hdiv hmod x
      rw [hdm] at hset
      generalize k / s.length = d at *
      generalize k % s.length = r at *
      rw [ek]
      refine amGo ?_
      rw [emod]
      ((try refine Or.inl ?_); refine ⟨_, (served_d m s r hmod (prob_rows hp _ hmod) (by omega)), amF, ?_⟩; refine amC ?_)
      refine amB ?_
      (refine awp_foc 3 (d) rfl amT ?_; simp only [xr, simprocAttr])
      refine g7 ?_
      simp only [xr, simprocAttr, ediv, emod]
      refine amS ?_
      ((try refine Or.inl ?_); refine ⟨_, (index_d (srv s m.length r) (((rowsP s.length m.length l).getD d []).getD r 0)), .inl rfl, ?_⟩; refine amC ?_)
      have hmem : l.getD k 0 ∈ srv s m.length r := by rw [← hop]; exact hp3 k (by omega)
      obtain ⟨i, hi, hx⟩ := List.mem_iff_getElem.1 hmem
      have hwi : whP m s k (l.getD k 0) = i := by
        rw [← hx, ← getD_in (d := 0) hi, ← hop]
        exact wh_ok k i (by rw [hop]; exact hi)
      have hxi : idxOf (fun y => decide (((rowsP s.length m.length l).getD d []).getD r 0 = y)) (srv s m.length r) = (i : Int) := by
        rw [hat, ← hx, ← getD_in (d := 0) hi]
        exact srv_idx hi
      have hsl : (srv s m.length r).length ≤ 4 := by rw [← hop]; exact op_le hp k
      have hnx : nxtP (opP m s) (whP m s) (k + 1) l = if i + 1 < (opP m s k).length then some (l.set k ((opP m s k).getD (i + 1) 0)) else nxtP (opP m s) (whP m s) k (l.set k ((opP m s k).getD 0 0)) := by
        show (if whP m s k (l.getD k 0) + 1 < (opP m s k).length then some (l.set k ((opP m s k).getD (whP m s k (l.getD k 0) + 1) 0)) else _) = _
        rw [hwi]
      rw [hxi]
      refine amGo ?_
      refine awp_cond amQ (fun hi1 => ?_) (fun hi1 => ?_)
      · have hi1 := of_decide_eq_true hi1
        have h5 := hnx
        rw [if_pos (by rw [hop]; omega), hp4, hnext] at h5
        by_cases hj1 : j + 1 < algN m s
        · rw [if_pos hj1] at h5
          have h6 := Option.some.inj h5
          rw [hop] at h6
          (refine amB ?_; refine awp_anyG 0 [(15, [5])] [5] [(5, []), (14, []), (15, [])] ?_; simp (maxSteps := 3000000) only [xg, ediv, emod, xr, simprocAttr]; refine amSG ?_)
          rw [show ((i : Int) + 1).toNat = i + 1 by omega]
          (refine awp_unf 3 rfl (by decide) rfl rfl amT rfl ?_; simp only [xu, simprocAttr])
          rw [hset, ← h6]
          refine amGo ?_
          refine awp_cond amQ (fun hkz => ?_) (fun hkz => ?_)
          · have hkz := of_decide_eq_true hkz
            omega
          refine amGo ?_
          refine ⟨(j + 1, (some p)), hj1, ho', (by show algN m s - (j + 1) < algN m s - j; omega), .inr ⟨5, Nat.le_of_ble_eq_true rfl, leT_of ?_ rfl rfl rfl⟩⟩
          ((try simp only [xk]); (repeat (refine leK_cons ?_ ?_; first | (exact amE) | rotate_left)); (refine leK_nil ?_; exact (by rfl)); (all_goals (try (simp only [xr, simprocAttr]; try refine int_eq1 ?_))))
        · rw [if_neg hj1] at h5
          cases h5
      · have hi1 := of_decide_eq_false hi1
        have h5 := hnx
        rw [if_neg (by rw [hop]; omega), hp4] at h5
        rw [hop] at h5
        have h0 : 0 < (srv s m.length r).length := by rw [← hop]; exact op_pos hp k
        (refine amB ?_; refine awp_anyG 0 [(13, [5])] [5] [(5, []), (12, []), (13, [])] ?_; simp (maxSteps := 3000000) only [xg, ediv, emod, xr, simprocAttr]; refine amSG ?_)
        (refine awp_unf 3 rfl (by decide) rfl rfl amT rfl ?_; simp only [xu, simprocAttr])
        rw [hset]
        refine amGo ?_
        refine ⟨(k, l.set k ((srv s m.length r).getD 0 0)), (by show k ≤ _; omega), (by show (l.set _ _).length = _; rw [List.length_set]; exact hp2), (fun q hq => ?_), h5.symm, (by show k < k + 1; omega), .inr ⟨5, Nat.le_of_ble_eq_true rfl, leT_of ?_ rfl rfl rfl⟩⟩
        · show (l.set k ((srv s m.length r).getD 0 0)).getD q 0 ∈ _
          rw [set_getD]
          split
          · rename_i hqk
            rw [← hqk.1, hop, getD_in h0]
            exact List.getElem_mem _
          · exact hp3 q hq
        · ((try simp only [xk]); (repeat (refine leK_cons ?_ ?_; first | (exact amE) | rotate_left)); (refine leK_nil ?_; exact (by rfl)); (all_goals (try (simp only [xr, simprocAttr]; try refine int_eq1 ?_))))
    · have hk := of_decide_eq_false hk
      obtain rfl : p0 = 0 := by omega
      have h5 := hp4
      rw [hnext] at h5
      have hfin : algN m s = j + 1 := by
        by_cases hj1 : j + 1 < algN m s
        · rw [if_pos hj1] at h5
          cases h5
        · omega
      rw [hfin, ← ho']
      dsimp only
      refine amGo ?_
      refine awp_cond amQ (fun hkz => ?_) (fun hkz => ?_)
      · skip
        have hal : (algT m s p.1).length = m.length := rowsP_len _ _ _
        refine amGo ?_
        refine awp_cond amQ (fun hnil => ?_) (fun hnil => ?_)
        · cases hnil
        · (refine amB ?_; refine awp_anyG 0 [(3, [1])] [1] [(3, [])] ?_; refine amNG ?_)
          refine amGo ?_
          (simp only [ends_normal, ends_ret]; refine retH_2 (vs := [_, _, _]) [4] rfl ⟨rfl, trivial⟩ rfl rfl rfl rfl ⟨rfl, ⟨amK, rfl⟩, rfl, trivial⟩ ?_; try rfl)
      · simp at hkz
end Go.Proofs.Ytlhdeofkhajigaa
/- BestMemoryless of the reference, on the machine, and both as the law wants them. Conditions: none. -/
set_option linter.all false
set_option linter.unusedSimpArgs false
set_option linter.unusedVariables false
namespace Go.Proofs.Ytlhdeofkhajigaa
open Go Go.RowKit Am

def bmT (m s : List (List Int)) : Option (Nat × (Int × Int)) → List (List Int)
  | none => []
  | some p => algT m s p.1
def bmR : Option (Nat × (Int × Int)) → Int × Int
  | none => (0, 0)
  | some p => p.2
abbrev bsA (m s : List (List Int)) (o : Option (Nat × (Int × Int))) : AV := .tup [.one (.b (.sl (.ii (bmT m s o)))), frT (bmR o), blT o.isSome]
theorem prQ_pr {m s nx : List (List Int)} {y : Nat} (ht : takesB m s y [] = true) (ha : algB m s nx = true) : prQ m s nx y = pr m s nx y := by
  unfold prQ
  rw [ht, ha, Int.toNat_natCast]
  rfl
theorem all_at {m s : List (List Int)} {i : Nat} (hi : i < algN m s) : ((lstP (opP m s) (m.length * s.length)).map (rowsP s.length m.length)).getD i [] = algT m s i := by
  have h : i < (lstP (opP m s) (m.length * s.length)).length := by rw [lstP_len]; exact hi
  rw [getD_in (by rw [List.length_map]; exact h), List.getElem_map]
  unfold algT algL
  rw [getD_in h]
abbrev bsB (m s : List (List Int)) (o : Option (Nat × (Int × Int))) : List Ob := [.box [.b (.sl (.ii m)), .b (.sl (.ii s))], .box [.b (.val (.int .i64 0)), .b (.val (.int .i64 0))], .gone, .box [.b (.val (.int .i64 (bmR o).1)), .b (.val (.int .i64 (bmR o).2))]]
set_option maxRecDepth 8000 in
set_option maxHeartbeats 4000000 in
theorem specBest_d {m s : List (List Int)} {y : Nat} (hp : probB m s = true) (hy : y < m.length) (ht : takesB m s y [] = true) (hN : algN m s ≤ 300) {V : Nat → (Int × Int) × Bool} (hV : ∀ j, V j = exB m s (algT m s j) y) :
    Does Try.prog 26 [prA m s, .int y] (.imm (bsA m s (bstP V (algN m s)))) := by
  have hl := prob_len hp
  obtain ⟨L, hL⟩ : ∃ L, L = (lstP (opP m s) (m.length * s.length)).map (rowsP s.length m.length) := ⟨_, rfl⟩
  have hLl : L.length = algN m s := by rw [hL, List.length_map, lstP_len]; rfl
  have hLa : ∀ i, i < algN m s → L.getD i [] = algT m s i := fun i hi => by rw [hL]; exact all_at hi
  have hal9 := l9Algorithms_d hp hN
  rw [← hL] at hal9
  clear hL
  refine spec_imm Try.func26 rfl Try.ntmps26 cfOK (fun _ _ => by kernel_rfl) rfl (Nat.le_of_ble_eq_true rfl) ?_
  intro M0 w0
  rw [Try.results26]
  refine amGo ?_
  ((try refine Or.inl ?_); refine ⟨_, (specCount_d hp), .inl rfl, ?_⟩; refine amC ?_)
  refine amGo ?_
  ((try refine Or.inl ?_); refine ⟨_, (fun _ => l8Takes_d m s y []), .inl rfl, ?_⟩; refine amC ?_)
  rw [ht]
  refine amGo ?_
  refine awp_cond amQ (fun hz => ?_) (fun hz => ?_)
  · simp at hz
    omega
  refine amGo ?_
  ((try refine Or.inl ?_); refine ⟨_, (hal9), amF, ?_⟩; refine amC ?_)
  refine amGo ?_
  (refine awp_frz 2 rfl ?_; simp only [xz, simprocAttr])
  refine awp_rounds (α := Nat) (fun i => [(13, true, .int i), (10, true, .sl (.ii (bmT m s (bstP V i)))), (12, true, .bool (bstP V i).isSome)]) [1, 2, 5, 9, 11] (fun i => bsB m s (bstP V i)) (fun i => i ≤ algN m s) (fun i => algN m s - i) 0 (by ((try simp only [xk]); (repeat (refine leK_cons ?_ ?_; first | (exact amE) | rotate_left)); (refine leK_nil ?_; exact (by rfl)); (all_goals (try (simp only [xr, simprocAttr]; try refine int_eq1 ?_))))) (Nat.zero_le _) fun i hi => ?_
  simp only [xr, simprocAttr]
  refine amGo ?_
  refine awp_cond amQ (fun hd => ?_) (fun hd => ?_)
  · have hd := of_decide_eq_true hd
    have hi' : i < algN m s := by omega
    have ha := alg_ok hi'
    have hat := hLa i hi'
    have hmk := l9Make_d m s (algT m s i) y hp ha hy
    have hVi := hV i
    unfold exB at hVi
    rw [prQ_pr ht ha] at hVi
    have hQF := prQ_full (m := m) (s := s) (nx := algT m s i) (x := (y : Int))
    rw [prQ_pr ht ha] at hQF
    unfold prAv at hmk
    (refine amB ?_; refine awp_anyM [4] 8 [] (by kernel_rfl) (by kernel_rfl) (by kernel_rfl) (by kernel_rfl) (by kernel_rfl) ?_; refine amM ?_)
    rw [hat]
    cases hq : (pr m s (algT m s i) y).2
    · have hF := hQF hq
      rw [hq] at hVi hmk
      have hVi : V i = exV (exO (egs (pr m s (algT m s i) y).1.rows)) := hVi
      generalize (pr m s (algT m s i) y).1 = g at hF hVi hmk
      have hok := exO_ok (eg_B hF)
      have hex := l9Exact_d hF hok.1
      ((try refine Or.inl ?_); refine ⟨_, (hmk), amF, ?_⟩; refine amC ?_)
      refine amGo ?_
      refine awp_cond amQ (fun hb => ?_) (fun hb => ?_)
      · cases hb
      refine amGo ?_
      cases hoE : exO (egs g.rows) with
      | none =>
        rw [hoE] at hex hVi
        have hex : Does Try.prog 39 [grA g] (.imm (.tup [frT (0, 0), blT false])) := hex
        have hnx : bstP V (i + 1) = bstP V i := by show (if betB (V i) (bstP V i) = true then some (i, (V i).1) else bstP V i) = bstP V i; rw [if_neg]; rw [hVi]; cases bstP V i <;> exact Bool.false_ne_true
        ((try refine Or.inl ?_); refine ⟨_, (hex), .inl rfl, ?_⟩; refine amC ?_)
        refine amGo ?_
        refine .inl ⟨AV.int 0, .inl rfl, ?_⟩
        simp only [xr, simprocAttr]
        refine amGo ?_
        refine awp_cond amQ (fun hs => ?_) (fun hs => ?_)
        · cases hs
        refine amGo ?_
        refine ⟨i + 1, by omega, by omega, .inr ⟨4, Nat.le_of_ble_eq_true rfl, leT_of ?_ rfl rfl rfl⟩⟩
        rw [hnx]
        ((try simp only [xk]); (repeat (refine leK_cons ?_ ?_; first | (exact amE) | rotate_left)); (refine leK_nil ?_; exact (by rfl)); (all_goals (try (simp only [xr, simprocAttr]; try refine int_eq1 ?_))))
      | some ab =>
        obtain ⟨a, b⟩ := ab
        have hrt := hok.2 a b hoE
        rw [hoE] at hex hVi
        have hex : Does Try.prog 39 [grA g] (.imm (.tup [frT (a, b), blT true])) := hex
        have hst : bstP V (i + 1) = if betB (V i) (bstP V i) = true then some (i, (V i).1) else bstP V i := rfl
        rw [hVi] at hst
        cases ho : bstP V i with
        | none =>
          rw [ho] at hst
          have hnx : bstP V (i + 1) = some (i, (a, b)) := hst
          simp only [Option.isSome_none]
          ((try refine Or.inl ?_); refine ⟨_, (hex), .inl rfl, ?_⟩; refine amC ?_)
          refine amGo ?_
          refine .inl ⟨AV.int 0, .inl rfl, ?_⟩
          simp only [xr, simprocAttr]
          refine amGo ?_
          refine awp_cond amQ (fun hs => ?_) (fun hs => ?_)
          · refine amGo ?_
            rw [hat]
            refine amGo ?_
            refine ⟨i + 1, by omega, by omega, .inr ⟨4, Nat.le_of_ble_eq_true rfl, leT_of ?_ rfl rfl rfl⟩⟩
            rw [hnx]
            ((try simp only [xk]); (repeat (refine leK_cons ?_ ?_; first | (exact amE) | rotate_left)); (refine leK_nil ?_; exact (by rfl)); (all_goals (try (simp only [xr, simprocAttr]; try refine int_eq1 ?_))))
          · cases hs
        | some p =>
          rw [ho] at hst
          have hrp : RtOK p.2 := by rw [(bstP_ok ho).2.2, hV]; exact exB_ok (by rw [← hV]; exact (bstP_ok ho).2.1)
          obtain ⟨r1, r2, r3, r4⟩ := hrp
          have a1 := hrt.na
          have a2 := hrt.ma
          have a3 := hrt.nb
          have a4 := hrt.mb
          have q5 : 0 ≤ a * p.2.2 ∧ a * p.2.2 ≤ 71400 * 71400 := ⟨Int.mul_nonneg a1 (by omega), Int.mul_le_mul a2 r4 (by omega) (by decide)⟩
          have q6 : 0 ≤ p.2.1 * b ∧ p.2.1 * b ≤ 71400 * 71400 := ⟨Int.mul_nonneg r1 (by omega), Int.mul_le_mul r2 a4 (by omega) (by decide)⟩
          have hcm := l2Cmp_d (a, b) p.2 (by show I64 (a * p.2.2); unfold I64; omega) (by show I64 (p.2.1 * b); unfold I64; omega)
          have hcv : cmpV ((a, b).1 * p.2.2) (p.2.1 * (a, b).2) < 0 ↔ a * p.2.2 < p.2.1 * b := by
            show cmpV (a * p.2.2) (p.2.1 * b) < 0 ↔ _
            unfold cmpV
            split
            · simp; omega
            · split <;> simp <;> omega
          generalize cmpV ((a, b).1 * p.2.2) (p.2.1 * (a, b).2) = cv at hcm hcv
          dsimp only [bmR, bmT] at hcm ⊢
          simp only [Option.isSome_some]
          ((try refine Or.inl ?_); refine ⟨_, (hex), .inl rfl, ?_⟩; refine amC ?_)
          refine amGo ?_
          ((try refine Or.inl ?_); refine ⟨_, (hcm), .inl rfl, ?_⟩; refine amC ?_)
          refine amGo ?_
          refine awp_cond amQ (fun hs => ?_) (fun hs => ?_)
          · have hs : cv < 0 := by simpa using hs
            have hnx : bstP V (i + 1) = some (i, (a, b)) := by
              rw [hst, if_pos]
              · rfl
              · show (true && decide (a * p.2.2 < p.2.1 * b)) = true
                rw [decide_eq_true (hcv.1 hs)]
                rfl
            refine amGo ?_
            rw [hat]
            refine amGo ?_
            refine ⟨i + 1, by omega, by omega, .inr ⟨4, Nat.le_of_ble_eq_true rfl, leT_of ?_ rfl rfl rfl⟩⟩
            rw [hnx]
            ((try simp only [xk]); (repeat (refine leK_cons ?_ ?_; first | (exact amE) | rotate_left)); (refine leK_nil ?_; exact (by rfl)); (all_goals (try (simp only [xr, simprocAttr]; try refine int_eq1 ?_))))
          · have hs : ¬ cv < 0 := by simpa using hs
            have hnx : bstP V (i + 1) = some p := by
              rw [hst, if_neg]
              show ¬ (true && decide (a * p.2.2 < p.2.1 * b)) = true
              rw [decide_eq_false fun h => hs (hcv.2 h)]
              exact Bool.false_ne_true
            refine amGo ?_
            refine ⟨i + 1, by omega, by omega, .inr ⟨4, Nat.le_of_ble_eq_true rfl, leT_of ?_ rfl rfl rfl⟩⟩
            rw [hnx]
            ((try simp only [xk]); (repeat (refine leK_cons ?_ ?_; first | (exact amE) | rotate_left)); (refine leK_nil ?_; exact (by rfl)); (all_goals (try (simp only [xr, simprocAttr]; try refine int_eq1 ?_))))
    · rw [hq] at hVi hmk
      have hVi : V i = ((0, 0), false) := hVi
      have hnx : bstP V (i + 1) = bstP V i := by show (if betB (V i) (bstP V i) = true then some (i, (V i).1) else bstP V i) = bstP V i; rw [if_neg]; rw [hVi]; cases bstP V i <;> exact Bool.false_ne_true
      ((try refine Or.inl ?_); refine ⟨_, (hmk), amF, ?_⟩; refine amC ?_)
      refine amGo ?_
      refine awp_cond amQ (fun hb => ?_) (fun hb => ?_)
      · skip
        refine amGo ?_
        refine ⟨i + 1, by omega, by omega, .inr ⟨4, Nat.le_of_ble_eq_true rfl, leT_of ?_ rfl rfl rfl⟩⟩
        rw [hnx]
        ((try simp only [xk]); (repeat (refine leK_cons ?_ ?_; first | (exact amE) | rotate_left)); (refine leK_nil ?_; exact (by rfl)); (all_goals (try (simp only [xr, simprocAttr]; try refine int_eq1 ?_))))
      · cases hb
  · have hd := of_decide_eq_false hd
    obtain rfl : i = algN m s := by omega
    have hbl : (bmT m s (bstP V (algN m s))).length ≤ 4 := by
      cases bstP V (algN m s) with
      | none => exact Nat.zero_le _
      | some p => show (algT m s p.1).length ≤ 4; unfold algT; rw [rowsP_len]; omega
    have hbr : ∀ r ∈ bmT m s (bstP V (algN m s)), r.length ≤ 100 := fun r hr => by
      cases hb : bstP V (algN m s) with
      | none => rw [hb] at hr; cases hr
      | some p =>
        rw [hb] at hr
        have hr : r ∈ algT m s p.1 := hr
        obtain ⟨q, hq, rfl⟩ := List.mem_iff_getElem.1 hr
        have hq' : q < m.length := by unfold algT at hq; rw [rowsP_len] at hq; exact hq
        have h1 := rowsP_rlen (K := s.length) (algL_len (bstP_ok hb).1) hq'
        rw [getD_in (by rw [rowsP_len]; exact hq')] at h1
        have h2 : (algT m s p.1)[q].length = s.length := h1
        omega
    generalize hB : bmT m s (bstP V (algN m s)) = B at *
    refine amGo ?_
    (refine awp_toT 4 3 [] rfl rfl rfl ?_; simp only [xu, simprocAttr])
    refine awp_rounds (α := Nat) (fun k => [(18, true, .int k)]) [5, 10, 11, 12, 17] (fun k => bsB m s (bstP V (algN m s)) ++ [.tree [29, 3] (.ii (B.take k))]) (fun k => k ≤ B.length) (fun k => B.length - k) 0 (by ((try simp only [xk]); (repeat (refine leK_cons ?_ ?_; first | (exact amE) | rotate_left)); (refine leK_nil ?_; exact (by rfl)); (all_goals (try (simp only [xr, simprocAttr]; try refine int_eq1 ?_))))) (Nat.zero_le _) fun k hk => ?_
    have hkl : (B.take k).length ≤ k := by rw [List.length_take]; omega
    simp only [List.cons_append, List.nil_append]
    simp only [xr, simprocAttr]
    refine amGo ?_
    refine awp_cond amQ (fun he => ?_) (fun he => ?_)
    · have he := of_decide_eq_true he
      have hk' : k < B.length := by omega
      have hbk := hbr (B.getD k []) (by rw [getD_in hk']; exact List.getElem_mem _)
      have htk := take_getD hk' []
      refine amGo ?_
      refine ⟨k + 1, by omega, by omega, .inr ⟨5, Nat.le_of_ble_eq_true rfl, leT_of ?_ rfl rfl rfl⟩⟩
      ((try simp only [xk]); (repeat (refine leK_cons ?_ ?_; first | (exact amE) | rotate_left)); (refine leK_nil ?_; exact (by rw [htk] <;> rfl)); (all_goals (try (simp only [xr, simprocAttr]; try refine int_eq1 ?_))))
    · have he := of_decide_eq_false he
      obtain rfl : k = B.length := by omega
      rw [List.take_length]
      refine amB ?_
      (refine awp_frzT 4 rfl ?_; simp only [xz, simprocAttr])
      (refine amB ?_; refine awp_anyG 0 [(4, [1])] [1] [(4, [])] ?_; refine amNG ?_)
      refine amGo ?_
      rw [← hB]
      (simp only [xec, simprocAttr]; refine ⟨[_, _, _], ⟨rfl, ⟨amK, rfl⟩, rfl, trivial⟩, rfl, Imp.eq ?_⟩)
      rfl
end Go.Proofs.Ytlhdeofkhajigaa
/- BestMemoryless, on the machine, as the law wants it. Conditions: none. -/
set_option linter.all false
set_option linter.unusedSimpArgs false
set_option linter.unusedVariables false
namespace Go.Proofs.Ytlhdeofkhajigaa
open Go Go.RowKit Am

noncomputable def bmO (m s : List (List Int)) (x : Int) : Option (Nat × (Int × Int)) := bif takesB m s x [] && decide (algN m s ≤ 300) then bstP (fun j => exB m s (algT m s j) x) (algN m s) else none
noncomputable def bmB (m s : List (List Int)) (x : Int) : Bool := (bmO m s x).isSome
noncomputable def bmV (m s : List (List Int)) (x : Int) : List (List Int) := bmT m s (bmO m s x)
noncomputable def bmF (m s : List (List Int)) (x : Int) : Int × Int := bmR (bmO m s x)
theorem bmO_yes {m s : List (List Int)} {y : Nat} (h1 : takesB m s y [] = true) (h2 : algN m s ≤ 300) : bmO m s y = bstP (fun j => exB m s (algT m s j) y) (algN m s) := by
  unfold bmO
  rw [h1, decide_eq_true h2]
  rfl
theorem bmO_no1 {m s : List (List Int)} {x : Int} (h : takesB m s x [] = false) : bmO m s x = none := by unfold bmO; rw [h]; rfl
theorem bmO_no2 {m s : List (List Int)} {x : Int} (h : ¬ algN m s ≤ 300) : bmO m s x = none := by unfold bmO; rw [decide_eq_false h]; cases takesB m s x [] <;> rfl
theorem bmV_sm {m s : List (List Int)} {x : Int} (hb : bmB m s x = true) : (bmV m s x).length ≤ 4 ∧ ∀ r ∈ bmV m s x, r.length ≤ 4 := by
  unfold bmB at hb
  unfold bmV
  cases ht : takesB m s x []
  · rw [bmO_no1 ht] at hb; cases hb
  · obtain ⟨hp, ⟨y, rfl, hy⟩, -, -⟩ := takes_ok ht
    have hl := prob_len hp
    by_cases h2 : algN m s ≤ 300
    · rw [bmO_yes ht h2] at hb ⊢
      cases ho : bstP (fun j => exB m s (algT m s j) y) (algN m s) with
      | none => rw [ho] at hb; cases hb
      | some p =>
        have hj := (bstP_ok ho).1
        show (algT m s p.1).length ≤ 4 ∧ ∀ r ∈ algT m s p.1, r.length ≤ 4
        refine ⟨by unfold algT; rw [rowsP_len]; omega, fun r hr => ?_⟩
        obtain ⟨q, hq, rfl⟩ := List.mem_iff_getElem.1 hr
        have hq' : q < m.length := by unfold algT at hq; rw [rowsP_len] at hq; exact hq
        have h1 := rowsP_rlen (K := s.length) (algL_len hj) hq'
        rw [getD_in (by rw [rowsP_len]; exact hq')] at h1
        have h2 : (algT m s p.1)[q].length = s.length := h1
        omega
    · rw [bmO_no2 h2] at hb; cases hb
theorem bmV_in {m s : List (List Int)} {x : Int} (hb : bmB m s x = true) : smII (bmV m s x) :=
  ⟨by have := (bmV_sm hb).1; omega, fun r hr => by have := (bmV_sm hb).2 r hr; omega⟩
theorem bmV_n {m s : List (List Int)} {x : Int} (hb : bmB m s x = true) : nII (bmV m s x) ≤ 16 := by
  have h1 := bmV_sm hb
  have h2 := szL_bd (N := List.length) h1.2
  have h3 : (bmV m s x).length * 4 ≤ 16 := by omega
  exact Nat.le_trans h2 h3
theorem specCount_n {m s : List (List Int)} (hp : probB m s = false) : Does Try.prog 41 [prA m s] (.imm (.tup [.one (.b (.val (.int .i64 0))), .one (.b (.val (.bool false)))])) := by
  refine spec_imm Try.func41 rfl Try.ntmps41 cfOK (fun _ _ => by kernel_rfl) rfl (Nat.le_of_ble_eq_true rfl) ?_
  intro M0 w0
  rw [Try.results41]
  refine amGo ?_
  ((try refine Or.inl ?_); refine ⟨_, (l8Good_d m s), .inl rfl, ?_⟩; refine amC ?_)
  rw [hp]
  refine amGo ?_
  refine awp_cond amQ (fun hz => ?_) (fun hz => ?_)
  · refine amGo ?_
    (simp only [xe, simprocAttr]; refine ⟨[_, _], ⟨rfl, rfl, trivial⟩, rfl, Imp.eq ?_⟩)
    rfl
  · cases hz
theorem spec_BestMemoryless_v (m s : List (List Int)) (x : Int) : Does Try.prog 26 [prA m s, .int x] (.imm (bsA m s (bmO m s x))) := by
  cases hp : probB m s
  · have ht : takesB m s x [] = false := by unfold takesB; rw [hp]; rfl
    rw [bmO_no1 ht]
    refine spec_imm Try.func26 rfl Try.ntmps26 cfOK (fun _ _ => by kernel_rfl) rfl (Nat.le_of_ble_eq_true rfl) ?_
    intro M0 w0
    rw [Try.results26]
    refine amGo ?_
    ((try refine Or.inl ?_); refine ⟨_, (specCount_n hp), .inl rfl, ?_⟩; refine amC ?_)
    refine amGo ?_
    refine .inl ⟨AV.bool false, .inl rfl, ?_⟩
    simp only [xr, simprocAttr]
    refine amGo ?_
    refine awp_cond amQ (fun hz => ?_) (fun hz => ?_)
    · refine amGoR ?_
      (refine awp_frz 2 rfl ?_; simp only [xz, simprocAttr])
      refine amGo ?_
      (simp only [xec, simprocAttr]; refine ⟨[_, _, _], ⟨rfl, ⟨amK, rfl⟩, rfl, trivial⟩, rfl, Imp.eq ?_⟩)
      rfl
    · simp at hz
  · cases ht : takesB m s x []
    · rw [bmO_no1 ht]
      refine spec_imm Try.func26 rfl Try.ntmps26 cfOK (fun _ _ => by kernel_rfl) rfl (Nat.le_of_ble_eq_true rfl) ?_
      intro M0 w0
      rw [Try.results26]
      refine amGo ?_
      ((try refine Or.inl ?_); refine ⟨_, (specCount_d hp), .inl rfl, ?_⟩; refine amC ?_)
      refine amGo ?_
      ((try refine Or.inl ?_); refine ⟨_, (fun _ => l8Takes_d m s x []), .inl rfl, ?_⟩; refine amC ?_)
      rw [ht]
      refine amGo ?_
      refine awp_cond amQ (fun hz => ?_) (fun hz => ?_)
      · refine amGoR ?_
        (refine awp_frz 2 rfl ?_; simp only [xz, simprocAttr])
        refine amGo ?_
        (simp only [xec, simprocAttr]; refine ⟨[_, _, _], ⟨rfl, ⟨amK, rfl⟩, rfl, trivial⟩, rfl, Imp.eq ?_⟩)
        rfl
      · simp at hz
    · obtain ⟨-, ⟨y, rfl, hy⟩, -, -⟩ := takes_ok ht
      by_cases h2 : algN m s ≤ 300
      · rw [bmO_yes ht h2]
        exact specBest_d hp hy ht h2 fun _ => rfl
      · rw [bmO_no2 h2]
        refine spec_imm Try.func26 rfl Try.ntmps26 cfOK (fun _ _ => by kernel_rfl) rfl (Nat.le_of_ble_eq_true rfl) ?_
        intro M0 w0
        rw [Try.results26]
        refine amGo ?_
        ((try refine Or.inl ?_); refine ⟨_, (specCount_d hp), .inl rfl, ?_⟩; refine amC ?_)
        refine amGo ?_
        ((try refine Or.inl ?_); refine ⟨_, (fun _ => l8Takes_d m s y []), .inl rfl, ?_⟩; refine amC ?_)
        rw [ht]
        refine amGo ?_
        refine awp_cond amQ (fun hz => ?_) (fun hz => ?_)
        · refine amGoR ?_
          (refine awp_frz 2 rfl ?_; simp only [xz, simprocAttr])
          refine amGo ?_
          (simp only [xec, simprocAttr]; refine ⟨[_, _, _], ⟨rfl, ⟨amK, rfl⟩, rfl, trivial⟩, rfl, Imp.eq ?_⟩)
          rfl
        · simp at hz
          omega
theorem spec_BestMemoryless_d (m s : List (List Int)) (x : Int) : Does Try.prog 26 [prA m s, .int x] (.imm (.tup [.one (.b (.sl (.ii (if bmB m s x = true then bmV m s x else [])))), frT (if bmB m s x = true then bmF m s x else (0, 0)), blT (bmB m s x)])) := by
  have h := spec_BestMemoryless_v m s x
  unfold bmB bmV bmF
  cases ho : bmO m s x with
  | none => rw [ho] at h; exact h
  | some p => rw [ho] at h; exact h
theorem impl_BestMemoryless_h (m s : List (List Int)) (x : Int) (hb : bmB m s x = true) : DoesH Try.prog 27 [prA m s, .int x] [] [] (.tup [.one (.own 0), frT (bmF m s x), blT true]) [.tree [29, 3] (.ii (bmV m s x))] := by
  unfold bmB at hb
  unfold bmV bmF
  cases ht : takesB m s x []
  · rw [bmO_no1 ht] at hb; cases hb
  · obtain ⟨hp, ⟨y, rfl, hy⟩, -, -⟩ := takes_ok ht
    by_cases h2 : algN m s ≤ 300
    · have h := best_h hp hy ht h2 (V := fun j => exB m s (algT m s j) y) fun _ => rfl
      rw [bmO_yes ht h2] at hb ⊢
      cases ho : bstP (fun j => exB m s (algT m s j) y) (algN m s) with
      | none => rw [ho] at hb; cases hb
      | some p => rw [ho] at h; exact h
    · rw [bmO_no2 h2] at hb; cases hb
theorem impl_BestMemoryless_i (m s : List (List Int)) (x : Int) (hb : bmB m s x = true) : Does Try.prog 27 [prA m s, .int x] (.imm (.tup [.one (.b (.sl (.ii (bmV m s x)))), frT (bmF m s x), blT true])) := imm_of (impl_BestMemoryless_h m s x hb)
theorem impl_BestMemoryless_0 (m s : List (List Int)) (x : Int) (hb : bmB m s x = false) : Does Try.prog 27 [prA m s, .int x] (.imm (.tup [.one (.b (.val (.slice none 0 0))), frT (0, 0), blT false])) := by
  unfold bmB at hb
  cases ht : takesB m s x []
  · skip
    refine spec_imm Try.func27 rfl Try.ntmps27 cfOK (fun _ _ => by kernel_rfl) rfl (Nat.le_of_ble_eq_true rfl) ?_
    intro M0 w0
    rw [Try.results27]
    refine amGo ?_
    ((try refine Or.inl ?_); refine ⟨_, (isStarted_n _ _ _), .inl rfl, ?_⟩; refine amC ?_)
    rw [ht]
    refine amGo ?_
    refine .inl ⟨AV.int 0, (fun h => by cases h), .inl rfl, ?_⟩
    simp only [xr, simprocAttr]
    refine amGo ?_
    refine awp_cond amQ (fun hz => ?_) (fun hz => ?_)
    · refine amGo ?_
      (simp only [xec, simprocAttr]; refine ⟨[_, _, _], ⟨rfl, ⟨amK, rfl⟩, rfl, trivial⟩, rfl, Imp.eq ?_⟩)
      rfl
    · simp at hz
  · obtain ⟨hp, ⟨y, rfl, hy⟩, -, -⟩ := takes_ok ht
    by_cases h2 : algN m s ≤ 300
    · have h := best_h hp hy ht h2 (V := fun j => exB m s (algT m s j) y) fun _ => rfl
      rw [bmO_yes ht h2] at hb
      cases ho : bstP (fun j => exB m s (algT m s j) y) (algN m s) with
      | none => rw [ho] at h; exact imm_of h
      | some p => rw [ho] at hb; cases hb
    · skip
      refine spec_imm Try.func27 rfl Try.ntmps27 cfOK (fun _ _ => by kernel_rfl) rfl (Nat.le_of_ble_eq_true rfl) ?_
      intro M0 w0
      rw [Try.results27]
      refine amGo ?_
      ((try refine Or.inl ?_); refine ⟨_, (isStarted_n _ _ _), .inl rfl, ?_⟩; refine amC ?_)
      rw [ht]
      refine amGo ?_
      ((try refine Or.inl ?_); refine ⟨_, (fun _ => countAlgorithms_d hp), .inl rfl, ?_⟩; refine amC ?_)
      refine amGo ?_
      refine awp_cond amQ (fun hz => ?_) (fun hz => ?_)
      · refine amGo ?_
        (simp only [xec, simprocAttr]; refine ⟨[_, _, _], ⟨rfl, ⟨amK, rfl⟩, rfl, trivial⟩, rfl, Imp.eq ?_⟩)
        rfl
      · simp at hz
        omega
end Go.Proofs.Ytlhdeofkhajigaa
