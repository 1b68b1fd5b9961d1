/- The library's IndexFunc and ContainsFunc on slices of ints and on slices of such, with a closure that is known by a contract. Conditions: the closure answers and turns nothing that was there. -/
import Derived.Test.YtlhdeofkhajigaaProg
import Derived.Test.YtlhdeofkhajigaaBase
set_option linter.all false
set_option linter.unusedSimpArgs false
set_option linter.unusedVariables false
namespace Go.Proofs.Ytlhdeofkhajigaa
open Go.RowKit

/-- the index of the first element that is said yes to, or -1 -/
def idxOf {α : Type} (p : α → Bool) (xs : List α) : Int := match xs.findIdx? p with | some i => (i : Int) | none => -1
theorem idxOf_none {α : Type} {p : α → Bool} {xs : List α} (h : ∀ x ∈ xs, p x = false) : idxOf p xs = -1 := by
  unfold idxOf
  rw [List.findIdx?_eq_none_iff.2 h]
theorem idxOf_some {α : Type} {p : α → Bool} {xs : List α} {k : Nat} (hk : k < xs.length) (h : p xs[k] = true) (h' : ∀ x ∈ xs.take k, p x = false) : idxOf p xs = k := by
  unfold idxOf
  have : xs.findIdx? p = some k := by
    rw [List.findIdx?_eq_some_iff_getElem]
    refine ⟨hk, h, fun j hj => ?_⟩
    have := h' xs[j] (List.mem_take_iff_getElem.2 ⟨j, by omega, rfl⟩)
    simp [this]
  rw [this]
theorem idxOf_any {α : Type} (p : α → Bool) (xs : List α) : decide (0 ≤ idxOf p xs) = xs.any p := by
  unfold idxOf
  cases h : xs.findIdx? p with
  | none =>
    rw [List.findIdx?_eq_none_iff] at h
    have : xs.any p = false := by simpa using h
    rw [this]
    rfl
  | some i =>
    rw [List.findIdx?_eq_some_iff_getElem] at h
    have : xs.any p = true := List.any_eq_true.2 ⟨_, List.getElem_mem h.1, h.2.1⟩
    rw [this]
    simp

/-- a function of the program with a body: a call enters it -/
def Enters (P : Program) (K : FuncId) : Prop := ∀ (av : Array Value) (W : World), (callFunc K av).run P W = .ok (.enter K av) W

set_option maxHeartbeats 1000000 in
theorem indexFuncI_any (w : World) (u : Value) (xs : List Int) (K : FuncId) (cap : Array Value) (p : Int → Bool) (hK : Enters Try.prog K) (hx : SlI w u xs)
    (hf : ∀ W, Below w.heap.size w W → ∀ (j : Nat) (hj : j < xs.length) (v : Value), v = .int .i64 xs[j] → Calls Try.prog K (#[v] ++ cap) W fun e W' => e = .returned (.bool (p xs[j])) ∧ Below W.heap.size W W') :
    Calls Try.prog 114 #[u, .func (.func K) #[] cap] w fun e w' => e = .returned (.int .i64 (idxOf p xs)) ∧ Below w.heap.size w w' := by
  have hlen := hx.len
  obtain ⟨A, c, rfl, hc1, hc2, hcell⟩ := hx.view
  have HK := hide hK
  have HF := hide hf
  clear hK hf hx
  go_enter Try.func114, Try.ntmps114
  go_wp2
  go_loopw [8] (fun i wr => ∃ k : Nat, k ≤ xs.length ∧ i = .int .i64 k ∧ Hid (∀ x ∈ xs.take k, p x = false) ∧ Below w.heap.size w wr) (fun i _ => xs.length - (intOf i).toNat)
  case atStart => exact ⟨0, Nat.zero_le _, rfl, (fun x h => by simp at h), Below.refl _ _⟩
  case round =>
    obtain ⟨k, hk, rfl, hN, hB⟩ := hrel
    by_cases hlt : k < xs.length
    · obtain ⟨ad, rfl, hc⟩ := hcell k hlt
      have hc' := (hB.cell (block_lt hc)).trans hc
      cases hp : p xs[k]
      · have HP := hide hp
        have HE : ∀ (av : Array Value) (W : World), (callFunc K av).run Try.prog W = .ok (.enter K av) W := HK.out
        clear hp hc hcell
        go_wp2_with ((with_reducible refine (HF.out _ hB k hlt _ rfl).mono ?_); rintro e w2 ⟨rfl, hb2⟩; rw [HP.out]; dsimp only)
        go_roundw
        case rel =>
          refine ⟨k + 1, by omega, by go_num, ?_, below_trans hB hb2 (Nat.le_refl _)⟩
          intro x hx
          rw [List.take_succ_eq_append_getElem hlt] at hx
          rcases List.mem_append.1 hx with hx | hx
          · exact hN.out x hx
          · simp at hx
            rw [hx]
            exact HP.out
        case measure => simp [intOf]; omega
      · have HP := hide hp
        have HE : ∀ (av : Array Value) (W : World), (callFunc K av).run Try.prog W = .ok (.enter K av) W := HK.out
        clear hp hc hcell
        go_wp2_with ((with_reducible refine (HF.out _ hB k hlt _ rfl).mono ?_); rintro e w2 ⟨rfl, hb2⟩; rw [HP.out]; dsimp only)
        go_ret
        exact ⟨by rw [idxOf_some hlt HP.out hN.out]; rfl, below_trans hB hb2 (Nat.le_refl _)⟩
    · go_wp2
      go_ret
      obtain rfl : k = xs.length := by omega
      have h1 := hN.out
      rw [List.take_of_length_le (Nat.le_refl _)] at h1
      exact ⟨by rw [idxOf_none h1]; rfl, hB⟩
theorem containsFuncI_any (w : World) (u : Value) (xs : List Int) (K : FuncId) (cap : Array Value) (p : Int → Bool) (hK : Enters Try.prog K) (hx : SlI w u xs)
    (hf : ∀ W, Below w.heap.size w W → ∀ (j : Nat) (hj : j < xs.length) (v : Value), v = .int .i64 xs[j] → Calls Try.prog K (#[v] ++ cap) W fun e W' => e = .returned (.bool (p xs[j])) ∧ Below W.heap.size W W') :
    Calls Try.prog 101 #[u, .func (.func K) #[] cap] w fun e w' => e = .returned (.bool (xs.any p)) ∧ Below w.heap.size w w' := by
  have H := hide (indexFuncI_any w u xs K cap p hK hx hf)
  clear hf hx hK
  have HA := hide (idxOf_any p xs)
  go_enter Try.func101, Try.ntmps101
  go_wp2_with ((with_reducible refine H.out.mono ?_); rintro e w2 ⟨rfl, hb2⟩; dsimp only)
  go_ret
  exact ⟨by rw [← HA.out]; rfl, hb2⟩
set_option maxHeartbeats 1000000 in
theorem indexFuncII_any (w : World) (u : Value) (xs : List (List Int)) (K : FuncId) (cap : Array Value) (p : (List Int) → Bool) (hK : Enters Try.prog K) (hx : SlII w u xs)
    (hf : ∀ W, Below w.heap.size w W → ∀ (j : Nat) (hj : j < xs.length) (v : Value), SlI w v xs[j] → Calls Try.prog K (#[v] ++ cap) W fun e W' => e = .returned (.bool (p xs[j])) ∧ Below W.heap.size W W') :
    Calls Try.prog 85 #[u, .func (.func K) #[] cap] w fun e w' => e = .returned (.int .i64 (idxOf p xs)) ∧ Below w.heap.size w w' := by
  have hlen := SlO.len hx
  obtain ⟨A, c, rfl, hc1, hc2, hcell⟩ := SlO.view hx
  have HK := hide hK
  have HF := hide hf
  clear hK hf hx
  go_enter Try.func85, Try.ntmps85
  go_wp2
  go_loopw [8] (fun i wr => ∃ k : Nat, k ≤ xs.length ∧ i = .int .i64 k ∧ Hid (∀ x ∈ xs.take k, p x = false) ∧ Below w.heap.size w wr) (fun i _ => xs.length - (intOf i).toNat)
  case atStart => exact ⟨0, Nat.zero_le _, rfl, (fun x h => by simp at h), Below.refl _ _⟩
  case round =>
    obtain ⟨k, hk, rfl, hN, hB⟩ := hrel
    by_cases hlt : k < xs.length
    · obtain ⟨ad, v, rfl, hc, hv⟩ := hcell k hlt
      have hc' := (hB.cell (block_lt hc)).trans hc
      cases hp : p xs[k]
      · have HP := hide hp
        have HE : ∀ (av : Array Value) (W : World), (callFunc K av).run Try.prog W = .ok (.enter K av) W := HK.out
        clear hp hc hcell
        go_wp2_with ((with_reducible refine (HF.out _ hB k hlt _ hv).mono ?_); rintro e w2 ⟨rfl, hb2⟩; rw [HP.out]; dsimp only)
        go_roundw
        case rel =>
          refine ⟨k + 1, by omega, by go_num, ?_, below_trans hB hb2 (Nat.le_refl _)⟩
          intro x hx
          rw [List.take_succ_eq_append_getElem hlt] at hx
          rcases List.mem_append.1 hx with hx | hx
          · exact hN.out x hx
          · simp at hx
            rw [hx]
            exact HP.out
        case measure => simp [intOf]; omega
      · have HP := hide hp
        have HE : ∀ (av : Array Value) (W : World), (callFunc K av).run Try.prog W = .ok (.enter K av) W := HK.out
        clear hp hc hcell
        go_wp2_with ((with_reducible refine (HF.out _ hB k hlt _ hv).mono ?_); rintro e w2 ⟨rfl, hb2⟩; rw [HP.out]; dsimp only)
        go_ret
        exact ⟨by rw [idxOf_some hlt HP.out hN.out]; rfl, below_trans hB hb2 (Nat.le_refl _)⟩
    · go_wp2
      go_ret
      obtain rfl : k = xs.length := by omega
      have h1 := hN.out
      rw [List.take_of_length_le (Nat.le_refl _)] at h1
      exact ⟨by rw [idxOf_none h1]; rfl, hB⟩
theorem containsFuncII_any (w : World) (u : Value) (xs : List (List Int)) (K : FuncId) (cap : Array Value) (p : (List Int) → Bool) (hK : Enters Try.prog K) (hx : SlII w u xs)
    (hf : ∀ W, Below w.heap.size w W → ∀ (j : Nat) (hj : j < xs.length) (v : Value), SlI w v xs[j] → Calls Try.prog K (#[v] ++ cap) W fun e W' => e = .returned (.bool (p xs[j])) ∧ Below W.heap.size W W') :
    Calls Try.prog 80 #[u, .func (.func K) #[] cap] w fun e w' => e = .returned (.bool (xs.any p)) ∧ Below w.heap.size w w' := by
  have H := hide (indexFuncII_any w u xs K cap p hK hx hf)
  clear hf hx hK
  have HA := hide (idxOf_any p xs)
  go_enter Try.func80, Try.ntmps80
  go_wp2_with ((with_reducible refine H.out.mono ?_); rintro e w2 ⟨rfl, hb2⟩; dsimp only)
  go_ret
  exact ⟨by rw [← HA.out]; rfl, hb2⟩

end Go.Proofs.Ytlhdeofkhajigaa
