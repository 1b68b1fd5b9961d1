/- append of one element onto a slice of the call's own: ints, and slices that are alone in their blocks; a row of such put into its place. Conditions: fewer than 2^30 elements. -/
import Derived.Test.YtjleohbjanlamaaLawI
namespace Go.Proofs.Ytjleohbjanlamaa
open Go.RowKit

/-- append of one element of one cell, out of a block known at its head -/
theorem wpl_app {P : Program} {W : World} {ops : Array Oper} {rest : List Oper} {o : Oper} {a : Act} {Q : Exit → Act → World → Prop} (hgd : o.guard = none) (s x : Operand) (t e bytes : Nat) (z : Value)
    (ho : o.op = .call { callee := .builtin .append, args := #[s, x], argTypes := #[t, t] }) (ht : P.underlying t = some (.slice e)) (hinfo : (P.info? e).map (fun i => (i.zero, i.size, i.bytes)) = some (some z, 1, bytes)) (hz : z.cells.size = 1) (hby : bytes ≤ 4096)
    {u : Value} {n : Nat} {us : List Value} {b c : Nat} {y : Value} (hs : a.eval s = u) (hx : a.eval x = .slice (some ⟨b, 0, none⟩) 1 c) (hc : W.cell? ⟨b, 0, none⟩ = some y) (hy : y.oneCell' = true)
    (hown : W.ownsRow 0 e 1 u n us) (hn : n ≤ 1073741824)
    (h : ∀ v' w', w'.ownsRow 0 e 1 v' (n + 1) (us ++ [y]) → W.grownBy w' u.ownBlock → (v'.ownBlock = u.ownBlock ∨ v'.ownBlock = some W.heap.size) → wpList P ops Q rest (a.put o.dst v') w') :
    wpList P ops Q (o :: rest) a W := by
  obtain ⟨i0, hi, hz0, hz1, hz2⟩ := info_parts hinfo
  refine wpList_append_own_at W hgd s x t ho 0 e i0 z 1 bytes ht hi hz0 hz1 hz2 hz (by omega) u n us hs hown ⟨b, 0, none⟩ 1 c [y] hx rfl ?_ ?_ ?_ ?_ (Nat.zero_le _) ?_
  · intro j v hv
    match j, hv with
    | 0, hv =>
      simp at hv
      subst hv
      exact hc
    | j + 1, hv => simp at hv
  · intro v hv
    simp at hv
    subst hv
    exact hy
  · simp only [maxLen]; omega
  · have : (n + 1) * bytes ≤ 1073741825 * 4096 := Nat.mul_le_mul (by omega) hby
    omega
  · intro v' w' h1 h2 _ h4
    exact h v' w' h1 h2 h4

section
variable {w w1 : World} {lo hi : Nat}
theorem RowI.snoc {u : Value} {xs : List Int} {n : Int} (h : w.ownsRow 0 3 1 u (xs.length + 1) (xs.map (Value.int .i64) ++ [.int .i64 n])) : RowI w u (xs ++ [n]) := by
  simpa [RowI] using h
/-- a slice of the call's own, one element more: where it lies -/
theorem OwI.app {u v : Value} {xs : List Int} {n : Int} (h : OwI w lo hi u xs) (hv : RowI w1 v (xs ++ [n])) (hat : v.ownBlock = u.ownBlock ∨ v.ownBlock = some w.heap.size) (hlo : lo ≤ hi) (hhi : hi ≤ w.heap.size) : OwI w1 lo w1.heap.size v (xs ++ [n]) :=
  ⟨hv, fun g hg => by
    have h1 := oneI.lt hv hg
    rcases hat with h2 | h2
    · have := h.2 g (by rw [← h2]; exact hg)
      omega
    · rw [h2] at hg
      simp at hg
      omega⟩
theorem below_app {B : Nat} {u : Value} {w0 : World} (hb : Below B w0 w) (hg : w.grownBy w1 u.ownBlock) (hu : InB lo hi u) (hB : B ≤ lo) (hs : B ≤ w.heap.size) : Below B w0 w1 :=
  hb.grown hg hs fun k hk => by have := hu k hk; omega

variable {α : Type} {R : World → Value → α → Prop} {e : Nat} {xs : List α}
/-- one slice more, in a newer block -/
theorem OwO.app (hR : One R) {u v : Value} {us : List Value} {x : α} {mid : Nat} (h1 : us.length = xs.length) (hrow : w1.ownsRow 0 e 1 v (xs.length + 1) (us ++ [u])) (hel : ∀ (j : Nat) (h : j < us.length) (h' : j < xs.length), R w1 us[j] xs[j]) (hx : R w1 u x)
    (hin : ∀ v' ∈ us, InB lo mid v') (hap : Apart us) (hu : InB mid hi u) (hv : ∀ g, v.ownBlock = some g → (lo ≤ g ∧ g < hi) ∧ (∀ v' ∈ us, v'.ownBlock ≠ some g) ∧ u.ownBlock ≠ some g) (h2 : lo ≤ mid) (h3 : mid ≤ hi) : OwO e R w1 lo hi v (xs ++ [x]) := by
  refine ⟨us ++ [u], by simp [h1], by simpa using hrow, fun j hj hj' => ?_, ?_, ?_⟩
  · rcases Nat.lt_or_ge j us.length with hlt | hge
    · rw [List.getElem_append_left hlt, List.getElem_append_left (by omega)]
      exact hel j hlt (by omega)
    · have : j = us.length := by simp at hj; omega
      subst this
      rw [List.getElem_append_right (Nat.le_refl _), List.getElem_append_right (by omega)]
      simpa [h1] using hx
  · refine List.pairwise_cons.2 ⟨fun b hb g hg => ?_, ?_⟩
    · obtain ⟨_, k2, k3⟩ := hv g hg
      rcases List.mem_append.1 hb with hb | hb
      · exact k2 b hb
      · simp at hb
        subst hb
        exact k3
    · refine List.pairwise_append.2 ⟨hap, by simp, fun a ha b hb g hg => ?_⟩
      simp at hb
      subst hb
      intro hg2
      have k1 := hin a ha g hg
      have k2 := hu g hg2
      omega
  · intro v' hv'
    rcases List.mem_cons.1 hv' with rfl | hv'
    · exact fun g hg => (hv g hg).1
    · rcases List.mem_append.1 hv' with hb | hb
      · exact inB_mono (hin v' hb) (Nat.le_refl _) h3
      · simp at hb
        subst hb
        exact inB_mono hu h2 (Nat.le_refl _)

/-- element j was grown where it lies, or moved to a newer block, and is put back -/
theorem OwO.put (hR : One R) {g n cap j : Nat} {v v' : Value} {x : α} (h : OwO e R w lo hi (.slice (some ⟨g, 0, none⟩) n cap) xs) (hn : n = xs.length) (hj : j < xs.length) (hc : w.cell? ⟨g, j, none⟩ = some v) (hg : w.grownBy w1 v.ownBlock) (hx : R w1 v' x)
    (hat : v'.ownBlock = v.ownBlock ∨ v'.ownBlock = some w.heap.size) (hhi : hi ≤ w.heap.size) (hlo : lo ≤ hi) :
    OwO e R (w1.setCell ⟨g, j, none⟩ v') lo w1.heap.size (.slice (some ⟨g, 0, none⟩) n cap) (xs.set j x) ∧ (∃ old, w1.cell? ⟨g, j, none⟩ = some old) ∧ w1.frozen? ⟨g, j, none⟩ = false := by
  subst hn
  obtain ⟨us, k1, k2, k3, k4, k5⟩ := h
  have hju : j < us.length := by omega
  have hvj : v = us[j] := by
    have := k2.cellAt j (by omega)
    rw [hc, List.getElem?_eq_getElem hju] at this
    exact Option.some.inj this
  subst hvj
  have hgb := k5 (.slice (some ⟨g, 0, none⟩) xs.length cap) (by simp) g rfl
  have hgl : g < w.heap.size := ownsRow_lt k2 rfl
  have hap := List.pairwise_cons.1 k4
  have hne : ∀ i (hi : i < us.length), us[i].ownBlock ≠ some g := fun i hi => hap.1 us[i] (List.getElem_mem hi) g rfl
  have hrow1 : w1.ownsRow 0 e 1 (.slice (some ⟨g, 0, none⟩) xs.length cap) xs.length us := ownsRow_keep k2 fun b hb => by
    simp [Value.ownBlock] at hb
    subst hb
    exact hg.block _ hgl (fun e => hne j hju e.symm)
  have hs := hrow1.stored j v'
  have h4 := (apart_iff _).1 hap.2
  have hother : ∀ i (hi : i < us.length), i ≠ j → R w1 us[i] (xs[i]'(by omega)) := fun i hi' hij => hR.keep (k3 i hi' (by omega)) fun b hb => hg.block b (hR.lt (k3 i hi' (by omega)) hb) (fun e => by
    rcases Nat.lt_or_ge i j with h | h
    · exact h4 i j hi' hju h b hb e.symm
    · exact h4 j i hju hi' (by omega) b e.symm hb)
  have hfar : ∀ b, b ≠ g → (w1.setCell ⟨g, j, none⟩ v').heap[b]? = w1.heap[b]? := fun b hb => Below.heap_setCell _ _ _ _ hb
  have hvlt : ∀ b, v'.ownBlock = some b → b < w1.heap.size := fun b hb => hR.lt hx hb
  have hv'ne : v'.ownBlock ≠ some g := by
    rcases hat with h | h
    · rw [h]; exact hne j hju
    · rw [h]; simp; omega
  refine ⟨⟨us.set j v', by simpa using k1, by simpa using hs.1, fun i hi1 hi2 => ?_, ?_, ?_⟩, ?_, hrow1.frozenAt j⟩
  · by_cases hij : i = j
    · subst hij
      rw [List.getElem_set_self, List.getElem_set_self]
      exact hR.keep hx fun b hb => hfar b (fun e => hv'ne (by rw [← e]; exact hb))
    · rw [List.getElem_set_ne (by omega), List.getElem_set_ne (by omega)]
      exact hR.keep (hother i (by simpa using hi1) hij) fun b hb => hfar b (fun e => hne i (by simpa using hi1) (by rw [← e]; exact hb))
  · refine List.pairwise_cons.2 ⟨fun b hb g' hg' => ?_, (apart_iff _).2 fun a b ha hb hab g' hg' => ?_⟩
    · simp [Value.ownBlock] at hg'
      subst hg'
      rcases List.mem_or_eq_of_mem_set hb with h | h
      · exact hap.1 b h g rfl
      · subst h
        exact hv'ne
    · have hold : ∀ i (hi : i < us.length), ∀ b', us[i].ownBlock = some b' → b' < w.heap.size := fun i hi b' hb' => hR.lt (k3 i hi (by omega)) hb'
      by_cases hja : j = a
      · subst hja
        rw [List.getElem_set_self] at hg'
        rw [List.getElem_set_ne (by omega)]
        rcases hat with h | h
        · rw [h] at hg'
          exact h4 j b hju (by simpa using hb) hab g' hg'
        · rw [h] at hg'
          simp at hg'
          intro e
          have := hold b (by simpa using hb) g' e
          omega
      · rw [List.getElem_set_ne hja] at hg'
        by_cases hjb : j = b
        · subst hjb
          rw [List.getElem_set_self]
          rcases hat with h | h
          · rw [h]
            exact h4 a j (by simpa using ha) hju hab g' hg'
          · rw [h]
            have := hold a (by simpa using ha) g' hg'
            simp
            omega
        · rw [List.getElem_set_ne hjb]
          exact h4 a b (by simpa using ha) (by simpa using hb) hab g' hg'
  · intro v0 hv0
    have hsz := hg.size
    rcases List.mem_cons.1 hv0 with rfl | hm
    · exact inB_mono (k5 _ (by simp)) (Nat.le_refl _) (by omega)
    · rcases List.mem_or_eq_of_mem_set hm with h | h
      · exact inB_mono (k5 v0 (by simp [h])) (Nat.le_refl _) (by omega)
      · subst h
        intro b hb
        have h1 := hvlt b hb
        rcases hat with h | h
        · have := k5 us[j] (by simp) b (by rw [← h]; exact hb)
          omega
        · rw [h] at hb
          simp at hb
          omega
  · have := hrow1.cellAt j (by omega)
    rw [List.getElem?_eq_getElem hju] at this
    exact ⟨_, this⟩

/-- the parts of a slice of such slices -/
def OwOAt {α : Type} (e : Nat) (R : World → Value → α → Prop) (w : World) (lo hi : Nat) (u : Value) (xs : List α) (us : List Value) : Prop :=
  us.length = xs.length ∧ w.ownsRow 0 e 1 u xs.length us ∧ (∀ (j : Nat) (h : j < us.length) (h' : j < xs.length), R w us[j] xs[j]) ∧ Apart (u :: us) ∧ ∀ v ∈ u :: us, InB lo hi v
theorem OwO.parts {u : Value} (h : OwO e R w lo hi u xs) : ∃ us, OwOAt e R w lo hi u xs us := h
theorem OwOAt.own {u : Value} {us : List Value} (h : OwOAt e R w lo hi u xs us) : w.ownsRow 0 e 1 u xs.length us := h.2.1
/-- append of one more such slice, which lies in newer blocks -/
theorem OwOAt.grow (hR : One R) {u v v' : Value} {us : List Value} {x : α} {mid : Nat} (h : OwOAt e R w lo mid v xs us) (hx : R w u x) (hu : InB mid hi u) (hg : w.grownBy w1 v.ownBlock) (hrow : w1.ownsRow 0 e 1 v' (xs.length + 1) (us ++ [u]))
    (hat : v'.ownBlock = v.ownBlock ∨ v'.ownBlock = some w.heap.size) (h1 : lo ≤ mid) (h2 : mid ≤ hi) (h3 : hi ≤ w.heap.size) : OwO e R w1 lo w1.heap.size v' (xs ++ [x]) := by
  obtain ⟨k1, k2, k3, k4, k5⟩ := h
  have hsz := hg.size
  have hap := List.pairwise_cons.1 k4
  have hold : ∀ i (hi : i < us.length), ∀ b, us[i].ownBlock = some b → b < w.heap.size := fun i hi b hb => hR.lt (k3 i hi (by omega)) hb
  have hul : ∀ b, u.ownBlock = some b → b < w.heap.size := fun b hb => hR.lt hx hb
  refine OwO.app (mid := mid) hR k1 hrow (fun j hj hj' => hR.keep (k3 j hj hj') fun b hb => hg.block b (hold j hj b hb) fun e => hap.1 us[j] (List.getElem_mem hj) b e.symm hb)
    (hR.keep hx fun b hb => hg.block b (hul b hb) fun e => ?_) (fun v0 hv0 => k5 v0 (by simp [hv0])) hap.2 (inB_mono hu (Nat.le_refl _) (by omega)) (fun b hb => ?_) h1 (by omega)
  · have a1 := hu b hb
    have a2 := k5 v (by simp) b e.symm
    omega
  · have hlt : b < w1.heap.size := ownsRow_lt hrow hb
    rcases hat with h | h
    · rw [h] at hb
      have a1 := k5 v (by simp) b hb
      exact ⟨⟨a1.1, hlt⟩, fun v0 hv0 => hap.1 v0 hv0 b hb, fun e => by have := hu b e; omega⟩
    · rw [h] at hb
      simp at hb
      subst hb
      refine ⟨⟨by omega, hlt⟩, fun v0 hv0 e => ?_, fun e => by have := hul _ e; omega⟩
      obtain ⟨i, hi, rfl⟩ := List.getElem_of_mem hv0
      have := hold i hi _ e
      omega
/-- an empty list that is written out -/
theorem OwI.lit0 (w : World) : OwI (w.alloc (.cells #[] 3)) w.heap.size (w.heap.size + 1) (.slice (some ⟨w.heap.size, 0, none⟩) 0 0) [] :=
  ⟨World.ownsRow_lit (base := 0) (size := 1) w #[] 0 (Nat.zero_le _) (Nat.zero_le _) rfl, fun g hg => by simp [Value.ownBlock] at hg; omega⟩
theorem OwO.lit0 (w : World) : OwO e R (w.alloc (.cells #[] e)) w.heap.size (w.heap.size + 1) (.slice (some ⟨w.heap.size, 0, none⟩) 0 0) [] :=
  ⟨[], rfl, World.ownsRow_lit (base := 0) (size := 1) w #[] 0 (Nat.zero_le _) (Nat.zero_le _) rfl, fun j h => by simp at h, by simp [Apart], fun v hv => by
    simp at hv
    subst hv
    intro g hg
    simp [Value.ownBlock] at hg
    omega⟩
end
end Go.Proofs.Ytjleohbjanlamaa
