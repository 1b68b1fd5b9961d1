/- The law's helpers on slices of ints: each returns what its Lean function says. Conditions: lengths of at most 2^20 where memory is made. -/
import Derived.Test.YtjleohbjanlamaaProg
import Derived.Test.YtjleohbjanlamaaBase
namespace Go.Proofs.Ytjleohbjanlamaa
open Go.RowKit

theorem infoInt : (Try.prog.info? 3).map (fun i => (i.zero, i.size, i.bytes)) = some (some (.int .i64 0), 1, 8) := by kernel_rfl
theorem infoIntS : (Try.prog.info? 30).map (fun i => (i.zero, i.size, i.bytes)) = some (some (.slice none 0 0), 1, 24) := by kernel_rfl

/-- a result that is a slice of ints of the call's own -/
def RetI (w : World) (xs : List Int) (e : Ending) (w' : World) : Prop := ∃ v, e = .returned v ∧ OwI w' w.heap.size w'.heap.size v xs ∧ Below w.heap.size w w'

/-- what a copying loop has filled after k rounds -/
def fillTo {α : Type} (z : α) (xs : List α) (k : Nat) : List α := xs.take k ++ List.replicate (xs.length - k) z
theorem fillTo_len {α : Type} (z : α) (xs : List α) (k : Nat) (h : k ≤ xs.length) : (fillTo z xs k).length = xs.length := by simp [fillTo]; omega
theorem fillTo_all {α : Type} (z : α) (xs : List α) : fillTo z xs xs.length = xs := by simp [fillTo]
theorem fillTo_none {α : Type} (z : α) (xs : List α) : fillTo z xs 0 = List.replicate xs.length z := by simp [fillTo]
theorem fillTo_set {α : Type} (z : α) (xs : List α) (k : Nat) (h : k < xs.length) : (fillTo z xs k).set k xs[k] = fillTo z xs (k + 1) := by
  have e1 : List.replicate (xs.length - k) z = z :: List.replicate (xs.length - (k + 1)) z := by
    rw [show xs.length - k = (xs.length - (k + 1)) + 1 by omega, List.replicate_succ]
  have hl : (xs.take k).length = k := by simp; omega
  unfold fillTo
  rw [e1, List.set_append_right _ _ (by omega), hl, Nat.sub_self, List.set_cons_zero, List.take_succ_eq_append_getElem h, List.append_assoc]
  rfl

theorem szIntS_any (w : World) (u : Value) (xs : List Int) (l : Int) (hx : SlI w u xs) (h0 : 0 ≤ l) (h1 : l ≤ 1048576) :
    Calls Try.prog 52 #[u, .int .i64 l] w fun e w' => e = .returned (.int .i64 (if l < xs.length then -1 else l - xs.length)) ∧ w = w' := by
  obtain ⟨A, c, rfl, hc1, hc2, hcell⟩ := hx.view
  clear hcell hx
  go_enter Try.func52, Try.ntmps52
  by_cases h : l < xs.length
  · rw [if_pos h]
    go_wp2
    go_ret
    exact ⟨rfl, rfl⟩
  · rw [if_neg h]
    go_wp2
    go_ret
    exact ⟨rfl, rfl⟩

set_option maxHeartbeats 400000 in
theorem toIntS_any (w : World) (u : Value) (xs : List Int) (hx : SlI w u xs) (hn : xs.length ≤ 1048576) : Calls Try.prog 26 #[u] w (RetI w xs) := by
  obtain ⟨A, c, rfl, hc1, hc2, hcell⟩ := hx.view
  obtain ⟨i0, hi, hz0, hz1, hz2⟩ := info_parts infoInt
  go_enter Try.func26, Try.ntmps26
  go_wp2_with (at_make; refine wpList_make_full _ rfl _ _ 30 rfl 0 3 i0 (.int .i64 0) 1 Try.underlying30 hi hz0 hz1 .i64 .i64 _ _ xs.length rfl rfl (by simp) (by simp) (by rw [hz2]; omega) (by simp [maxLen]; omega) (Nat.zero_le _) ?_; intro w1 hown1 hgrow1)
  have hB1 : Below w.heap.size w w1 := (Below.refl _ _).grown hgrow1 (Nat.le_refl _) (by simp)
  go_loopw [4] (fun i wr => ∃ k : Nat, k ≤ xs.length ∧ i = .int .i64 k ∧ OwI wr w.heap.size (w.heap.size + 1) (.slice (some ⟨w.heap.size, 0, none⟩) xs.length xs.length) (fillTo 0 xs k) ∧ Below w.heap.size w wr) (fun i _ => xs.length - (intOf i).toNat)
  case atStart => exact ⟨0, Nat.zero_le _, rfl, ⟨by simpa [RowI, fillTo, toList_madeCells_one, Value.cells] using hown1, fun g hg => by simp [Value.ownBlock] at hg; omega⟩, hB1⟩
  case round =>
    obtain ⟨k, hk, rfl, hO, hB⟩ := hrel
    clear hown1 hgrow1 hB1
    by_cases hlt : k < xs.length
    · obtain ⟨ad, rfl, hc⟩ := hcell k hlt
      have hc' := (hB.cell (block_lt hc)).trans hc
      have hl := fillTo_len 0 xs k hk
      obtain ⟨old, hs⟩ := hO.some_ hl.symm (j := k) (by omega)
      have hf := hO.free hl.symm k
      have HS := hide (hO.set hl.symm k xs[k])
      clear hc hcell hl
      go_wp2
      go_roundw
      case rel => exact ⟨k + 1, by omega, by go_num, by rw [← fillTo_set 0 xs k hlt]; exact HS.out.1, hB.trans (HS.out.2.below (Nat.le_refl _) hB.size)⟩
      case measure => simp [intOf]; omega
    · go_wp2
      go_ret
      obtain rfl : k = xs.length := by omega
      rw [fillTo_all] at hO
      exact ⟨_, rfl, hO.mono (Nat.le_refl _) (hO.lt rfl), hB⟩

/-- a result that is a slice of slices of the call's own -/
def RetII (w : World) (xss : List (List Int)) (e : Ending) (w' : World) : Prop := ∃ v, e = .returned v ∧ OwII w' w.heap.size w'.heap.size v xss ∧ Below w.heap.size w w'

set_option maxHeartbeats 400000 in
theorem toIntSS_any (w : World) (u : Value) (xss : List (List Int)) (hx : SlII w u xss) (hn : xss.length ≤ 1048576) (hn2 : ∀ xs ∈ xss, xs.length ≤ 1048576) : Calls Try.prog 25 #[u] w (RetII w xss) := by
  obtain ⟨A, c, rfl, hc1, hc2, hcell⟩ := SlO.view hx
  obtain ⟨i0, hi, hz0, hz1, hz2⟩ := info_parts infoIntS
  go_enter Try.func25, Try.ntmps25
  go_wp2_with (at_make; refine wpList_make_full _ rfl _ _ 46 rfl 0 30 i0 (.slice none 0 0) 1 Try.underlying46 hi hz0 hz1 .i64 .i64 _ _ xss.length rfl rfl (by simp) (by simp) (by rw [hz2]; omega) (by simp [maxLen]; omega) (Nat.zero_le _) ?_; intro w1 hown1 hgrow1)
  have hB1 : Below w.heap.size w w1 := (Below.refl _ _).grown hgrow1 (Nat.le_refl _) (by simp)
  have hs1 : w.heap.size < w1.heap.size := ownsRow_lt hown1 rfl
  have hO1 : OwII w1 w.heap.size (w.heap.size + 1) (.slice (some ⟨w.heap.size, 0, none⟩) xss.length xss.length) (fillTo [] xss 0) := by
    rw [fillTo_none]
    exact OwO.made (by simpa [toList_madeCells_one, Value.cells] using hown1) RowI.nil_ ⟨Nat.le_refl _, Nat.lt_succ_self _⟩
  clear hown1 hgrow1
  go_loopw [4] (fun i wr => ∃ k : Nat, k ≤ xss.length ∧ i = .int .i64 k ∧ OwII wr w.heap.size wr.heap.size (.slice (some ⟨w.heap.size, 0, none⟩) xss.length xss.length) (fillTo [] xss k) ∧ Below w.heap.size w wr) (fun i _ => xss.length - (intOf i).toNat)
  case atStart => exact ⟨0, Nat.zero_le _, rfl, hO1.mono (Nat.le_refl _) hs1, hB1⟩
  case round =>
    obtain ⟨k, hk, rfl, hO, hB⟩ := hrel
    clear hs1 hO1 hB1
    by_cases hlt : k < xss.length
    · obtain ⟨ad, v, rfl, hc, hr⟩ := hcell k hlt
      have hc' := (hB.cell (block_lt hc)).trans hc
      have hr' := SlI.below hr hB
      have hm := hn2 _ (List.getElem_mem hlt)
      have hl := hide (fillTo_len [] xss k hk)
      clear hc hcell hr hx
      go_wp2_with (go_at_call 26; refine (toIntS_any _ _ _ hr' hm).mono ?_; rintro e w2 ⟨v2, rfl, hv2, hb2⟩; obtain ⟨A2, c2, rfl⟩ := hv2.1.shape; have hO2 := OwO.below oneI hO hb2; have hS := hide (OwO.set oneI hO2 hl.out.symm (j := k) (by rw [hl.out]; exact hlt) hv2.1 hv2.2 hb2.size hB.size); obtain ⟨old, hs, _⟩ := OwO.elem hO2 hl.out.symm (j := k) (by rw [hl.out]; exact hlt); have hf := OwO.free hO2 hl.out.symm k; clear hm hr' hO hO2; dsimp only)
      go_roundw
      case rel => exact ⟨k + 1, by omega, by go_num, by rw [← fillTo_set [] xss k hlt]; exact OwO.mono hS.out.1 (Nat.le_refl _) (by simp), (below_trans hB hb2 (Nat.le_refl _)).trans (hS.out.2.below (Nat.le_refl _) (below_trans hB hb2 (Nat.le_refl _)).size)⟩
      case measure => simp [intOf]; omega
    · go_wp2
      go_ret
      obtain rfl : k = xss.length := by omega
      rw [fillTo_all] at hO
      exact ⟨_, rfl, hO, hB⟩


set_option maxHeartbeats 400000 in
theorem eqIntS_any (w : World) (u u' : Value) (xs ys : List Int) (hx : SlI w u xs) (hy : SlI w u' ys) :
    Calls Try.prog 30 #[u, u'] w fun e w' => e = .returned (.bool (decide (xs = ys))) ∧ Qt w w' := by
  obtain ⟨A, c, rfl, hc1, hc2, hcx⟩ := hx.view
  obtain ⟨A', c', rfl, hd1, hd2, hcy⟩ := hy.view
  clear hx hy
  by_cases hl : xs.length = ys.length
  · have hl' : ((xs.length : Int) != (ys.length : Int)) = false := by simp [hl]
    have HL := hide hl
    clear hl
    go_enter Try.func30, Try.ntmps30
    go_wp2
    go_loopw [5] (fun i wr => ∃ k : Nat, k ≤ xs.length ∧ i = .int .i64 k ∧ Qt w wr ∧ Hid (xs.take k = ys.take k)) (fun i _ => xs.length - (intOf i).toNat)
    case atStart => exact ⟨0, Nat.zero_le _, rfl, Qt.refl _, rfl⟩
    case round =>
      obtain ⟨k, hk, rfl, ⟨n, rfl⟩, hT⟩ := hrel
      by_cases hlt : k < xs.length
      · obtain ⟨ad, rfl, c1⟩ := hcx k hlt
        have hk2 : k < ys.length := by rw [← HL.out]; omega
        obtain ⟨ad', rfl, c2⟩ := hcy k hk2
        clear hcx hcy
        go_wp2
        go_quiet (fail)
        go_wp2
        · go_ret
          refine ⟨?_, by first | exact ⟨_, rfl⟩ | exact ⟨_, World.drewN_drewN _ _ _⟩⟩
          have h : (xs[k] != ys[k]) = true := by assumption
          have h2 : xs ≠ ys := by rintro rfl; simp at h
          simp [h2]
        · go_roundw
          case rel =>
            have h : (xs[k] != ys[k]) = false := by assumption
            refine ⟨k + 1, by omega, by go_num, (by first | exact ⟨_, rfl⟩ | exact ⟨_, World.drewN_drewN _ _ _⟩), ?_⟩
            have h3 : xs[k] = ys[k] := by simpa using h
            show xs.take (k + 1) = ys.take (k + 1)
            rw [List.take_succ_eq_append_getElem hlt, List.take_succ_eq_append_getElem hk2, hT.out, h3]
          case measure => simp [intOf]; omega
      · go_wp2
        go_ret
        refine ⟨?_, by first | exact ⟨_, rfl⟩ | exact ⟨_, World.drewN_drewN _ _ _⟩⟩
        have h := hT.out
        rw [List.take_of_length_le (by omega), List.take_of_length_le (by rw [← HL.out]; omega)] at h
        simp [h]
  · have hl' : ((xs.length : Int) != (ys.length : Int)) = true := by simp; omega
    have h2 : xs ≠ ys := by rintro rfl; exact hl rfl
    have hP : decide (xs = ys) = false := by simp [h2]
    go_enter Try.func30, Try.ntmps30
    go_wp2
    go_ret
    exact ⟨by simp [hP], Qt.refl _⟩
end Go.Proofs.Ytjleohbjanlamaa
