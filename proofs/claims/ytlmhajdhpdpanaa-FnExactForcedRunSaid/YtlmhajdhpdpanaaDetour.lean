/- Metrics: is there a detour, by the program's and the reference's functions. Conditions: the table is right. -/
import Derived.Test.YtlmhajdhpdpanaaMetric
set_option linter.all false
set_option linter.unusedSimpArgs false
set_option linter.unusedVariables false
namespace Go.Proofs.Ytlmhajdhpdpanaa
open Go.RowKit

/-- what a square table of small numbers is in memory: its head, its rows, its numbers -/
structure TabAt (w : World) (u : Value) (m : List (List Int)) (n : Nat) (ad : Addr) (c : Nat) : Prop where
  val : u = .slice (some ad) n c
  len : m.length = n
  pos : 0 < n
  le : n ≤ 6
  cap : n ≤ c
  row : ∀ x, x < n → ∃ ax cx, w.cell? (ad.add x) = some (.slice (some ax) n cx) ∧ n ≤ cx ∧ ∀ y, y < n → w.cell? (ax.add y) = some (.int .i64 (at2 m x y))
  num : ∀ x y, x < n → y < n → 0 ≤ at2 m x y ∧ at2 m x y ≤ 99
theorem tabAt_of {w : World} {u : Value} {m : List (List Int)} (hx : SlII w u m) (ht : tableB m = true) : ∃ n ad c, TabAt w u m n ad c := by
  obtain ⟨A, c, rfl, hc1, hc2, hcell⟩ := SlO.view hx
  unfold tableB at ht
  simp only [Bool.and_eq_true] at ht
  obtain ⟨⟨hr, hs⟩, htb⟩ := ht
  have hr' := rng_iff.1 hr
  obtain ⟨ad, _, rfl, _, _⟩ := hcell 0 (by omega)
  exact ⟨m.length, ad, c, rfl, rfl, by omega, by omega, hc1, fun x hx => rowAt hcell hs hx, fun x y hx hy => tab_bound htb hx hy⟩
theorem TabAt.keep {w w' : World} {u : Value} {m : List (List Int)} {n : Nat} {ad : Addr} {c : Nat} (h : TabAt w u m n ad c) (hb : Below w.heap.size w w') : TabAt w' u m n ad c :=
  ⟨h.val, h.len, h.pos, h.le, h.cap, fun x hx => by
    obtain ⟨ax, cx, h1, h2, h3⟩ := h.row x hx
    exact ⟨ax, cx, (hb.cell (block_lt h1)).trans h1, h2, fun y hy => (hb.cell (block_lt (h3 y hy))).trans (h3 y hy)⟩, h.num⟩

/-- the length of a slice -/
def SlLen (v : Value) (k : Nat) : Prop := ∃ A c, v = .slice A k c
set_option maxRecDepth 100000 in
set_option maxHeartbeats 4000000 in
theorem detour_any (w : World) (u : Value) (m : List (List Int)) (hx : SlII w u m) (ht : tableB m = true) :
    Calls Try.prog 219 #[.agg #[u]] w fun e w' => (∃ v k, SlLen v k ∧ e = .returned (.tuple #[v, .bool (!noDet m)])) ∧ Below w.heap.size w w' := by
  obtain ⟨n, ad, c, hT⟩ := tabAt_of hx ht
  obtain ⟨W, hW⟩ : ∃ W, w.alloc (.cells #[.slice (some ad) n c] 235) = W := ⟨_, rfl⟩
  have hB : Below w.heap.size w W := by rw [← hW]; exact by repeat (first | exact Below.refl _ _ | apply Below.drew | refine Below.setCell ?_ (by first | (simp; done) | (simp; omega)) _ | refine Below.alloc ?_ (by first | (simp; done) | (simp; omega)) _)
  have hT' := hT.keep hB
  have hbox : W.cell? ⟨w.heap.size, 0, none⟩ = some (.slice (some ad) n c) := by rw [← hW]; simp [go_sem]
  obtain ⟨hv, hlen, hpos, hle, hcap, hrow, hnum⟩ := hT'
  subst hv
  have HN := hide hlen
  have HROW := hide hrow
  have HNUM := hide hnum
  have HW := hide hW
  have HB := hide hB
  clear hx ht hT hlen hrow hnum hW hB
  go_enter Try.func219, Try.ntmps219
  go_wp2_with fail
  rw [HW.out]
  go_loopw [12] (fun i wr => ∃ k : Nat, k ≤ n ∧ i = .int .i64 k ∧ Qt W wr ∧ Hid (∀ x, x < k → allLt n (fun y => allLt n (detOk m x y)) = true)) (fun i _ => n - (intOf i).toNat)
  case atStart => exact ⟨0, Nat.zero_le _, rfl, Qt.refl _, fun x h => by omega⟩
  case round =>
    obtain ⟨x, hx, rfl, ⟨qx, rfl⟩, hGx⟩ := hrel
    by_cases hlx : x < n
    · obtain ⟨ax, cx, f1, f2, f3⟩ := HROW.out x hlx
      have HF3 := hide f3
      clear f3
      go_wp2
      go_loopw [19] (fun i wr => ∃ k : Nat, k ≤ n ∧ i = .int .i64 k ∧ Qt W wr ∧ Hid (∀ y, y < k → allLt n (detOk m x y) = true)) (fun i _ => n - (intOf i).toNat)
      case atStart => exact ⟨0, Nat.zero_le _, rfl, ⟨_, rfl⟩, fun x h => by omega⟩
      case round =>
        obtain ⟨y, hy, rfl, ⟨qy, rfl⟩, hGy⟩ := hrel
        by_cases hly : y < n
        · obtain ⟨ay, cy, g1, g2, g3⟩ := HROW.out y hly
          have HG3 := hide g3
          have c1 := HF3.out y hly
          have n1 := HNUM.out x y hlx hly
          obtain ⟨d, hd⟩ : ∃ d, at2 m x y = d := ⟨_, rfl⟩
          rw [hd] at c1 n1
          have HD := hide hd
          obtain ⟨n11, n12⟩ := n1
          clear g3 hd
          go_wp2
          go_loopw [27] (fun i wr => ∃ k : Nat, k ≤ n ∧ i = .int .i64 k ∧ Qt W wr ∧ Hid (∀ z, z < k → detOk m x y z = true)) (fun i _ => n - (intOf i).toNat)
          case atStart => exact ⟨0, Nat.zero_le _, rfl, ⟨_, rfl⟩, fun x h => by omega⟩
          case round =>
            obtain ⟨z, hz, rfl, ⟨qz, rfl⟩, hGz⟩ := hrel
            by_cases hlz : z < n
            · have c2 := HF3.out z hlz
              have c3 := HG3.out z hlz
              have n2 := HNUM.out x z hlx hlz
              have n3 := HNUM.out y z hly hlz
              obtain ⟨a, ha⟩ : ∃ a, at2 m x z = a := ⟨_, rfl⟩
              obtain ⟨b, hb⟩ : ∃ b, at2 m y z = b := ⟨_, rfl⟩
              rw [ha] at c2 n2
              rw [hb] at c3 n3
              obtain ⟨n21, n22⟩ := n2
              obtain ⟨n31, n32⟩ := n3
              have HK : Hid (detOk m x y z = decide (a ≤ d + b)) := by show detOk m x y z = _; unfold detOk; rw [ha, hb, HD.out]
              clear ha hb
              by_cases q : d + b < a
              · have HF : Hid (noDet m = false) := noDet_no (by rw [HN.out]; exact hlx) (by rw [HN.out]; exact hly) (by rw [HN.out]; exact hlz) (by rw [HK.out]; exact decide_eq_false (by omega))
                go_wp2
                go_quiet (fail)
                go_wp2
                go_ret2
                exact ⟨⟨_, 3, ⟨_, _, rfl⟩, (by rw [HF.out]; rfl)⟩, HB.out.trans (by repeat (first | exact Below.refl _ _ | apply Below.drew | apply below_drewN | refine Below.alloc ?_ (by simpa using HB.out.size) _))⟩
              · have q' : a ≤ d + b := by omega
                have HK' : Hid (detOk m x y z = true) := by show detOk m x y z = true; rw [HK.out]; exact decide_eq_true q'
                go_wp2
                go_quiet (fail)
                go_wp2
                go_roundw
                case rel => exact ⟨z + 1, by omega, by go_num, by first | exact ⟨_, rfl⟩ | exact ⟨_, World.drewN_drewN _ _ _⟩, allLt_step hGz.out HK'.out⟩
                case measure => simp [intOf]; omega
            · go_wp2
              go_roundw
              case rel =>
                obtain rfl : z = n := by omega
                first
                | exact ⟨y + 1, by omega, by go_num, ⟨_, rfl⟩, allLt_step hGy.out (allLt_iff.2 hGz.out)⟩
                | ((repeat apply Exists.intro); exact ⟨⟨y + 1, by omega, by go_num, ⟨_, rfl⟩, allLt_step hGy.out (allLt_iff.2 hGz.out)⟩, by repeat (first | rfl | constructor)⟩)
              case measure => simp [intOf]; omega
        · go_wp2
          go_roundw
          case rel =>
            obtain rfl : y = n := by omega
            first
            | exact ⟨x + 1, by omega, by go_num, ⟨_, rfl⟩, allLt_step hGx.out (allLt_iff.2 hGy.out)⟩
            | ((repeat apply Exists.intro); exact ⟨⟨x + 1, by omega, by go_num, ⟨_, rfl⟩, allLt_step hGx.out (allLt_iff.2 hGy.out)⟩, by repeat (first | rfl | constructor)⟩)
          case measure => simp [intOf]; omega
    · go_wp2
      go_ret2
      obtain rfl : x = n := by omega
      have e : noDet m = true := by
        unfold noDet
        rw [HN.out]
        exact allLt_iff.2 hGx.out
      exact ⟨⟨_, 0, ⟨_, _, rfl⟩, (by rw [e]; rfl)⟩, below_drewN HB.out _⟩
set_option maxRecDepth 100000 in
set_option maxHeartbeats 4000000 in
theorem l6Detour_any (w : World) (u : Value) (m : List (List Int)) (hx : SlII w u m) (ht : tableB m = true) :
    Calls Try.prog 217 #[.agg #[u]] w fun e w' => (∃ v k, SlLen v k ∧ (e = .returned v ∧ (k = 0 ↔ noDet m = true))) ∧ Below w.heap.size w w' := by
  obtain ⟨n, ad, c, hT⟩ := tabAt_of hx ht
  obtain ⟨W, hW⟩ : ∃ W, w.alloc (.cells #[.slice (some ad) n c] 235) = W := ⟨_, rfl⟩
  have hB : Below w.heap.size w W := by rw [← hW]; exact by repeat (first | exact Below.refl _ _ | apply Below.drew | refine Below.setCell ?_ (by first | (simp; done) | (simp; omega)) _ | refine Below.alloc ?_ (by first | (simp; done) | (simp; omega)) _)
  have hT' := hT.keep hB
  have hbox : W.cell? ⟨w.heap.size, 0, none⟩ = some (.slice (some ad) n c) := by rw [← hW]; simp [go_sem]
  obtain ⟨hv, hlen, hpos, hle, hcap, hrow, hnum⟩ := hT'
  subst hv
  have HN := hide hlen
  have HROW := hide hrow
  have HNUM := hide hnum
  have HW := hide hW
  have HB := hide hB
  clear hx ht hT hlen hrow hnum hW hB
  go_enter Try.func217, Try.ntmps217
  go_wp2_with fail
  rw [HW.out]
  go_loopw [4] (fun i wr => ∃ k : Nat, k ≤ n ∧ i = .int .i64 k ∧ Qt W wr ∧ Hid (∀ x, x < k → allLt n (fun y => allLt n (detOk m x y)) = true)) (fun i _ => n - (intOf i).toNat)
  case atStart => exact ⟨0, Nat.zero_le _, rfl, Qt.refl _, fun x h => by omega⟩
  case round =>
    obtain ⟨x, hx, rfl, ⟨qx, rfl⟩, hGx⟩ := hrel
    by_cases hlx : x < n
    · obtain ⟨ax, cx, f1, f2, f3⟩ := HROW.out x hlx
      have HF3 := hide f3
      clear f3
      go_wp2
      go_loopw [5] (fun i wr => ∃ k : Nat, k ≤ n ∧ i = .int .i64 k ∧ Qt W wr ∧ Hid (∀ y, y < k → allLt n (detOk m x y) = true)) (fun i _ => n - (intOf i).toNat)
      case atStart => exact ⟨0, Nat.zero_le _, rfl, ⟨_, rfl⟩, fun x h => by omega⟩
      case round =>
        obtain ⟨y, hy, rfl, ⟨qy, rfl⟩, hGy⟩ := hrel
        by_cases hly : y < n
        · obtain ⟨ay, cy, g1, g2, g3⟩ := HROW.out y hly
          have HG3 := hide g3
          have c1 := HF3.out y hly
          have n1 := HNUM.out x y hlx hly
          obtain ⟨d, hd⟩ : ∃ d, at2 m x y = d := ⟨_, rfl⟩
          rw [hd] at c1 n1
          have HD := hide hd
          obtain ⟨n11, n12⟩ := n1
          clear g3 hd
          go_wp2
          go_loopw [6] (fun i wr => ∃ k : Nat, k ≤ n ∧ i = .int .i64 k ∧ Qt W wr ∧ Hid (∀ z, z < k → detOk m x y z = true)) (fun i _ => n - (intOf i).toNat)
          case atStart => exact ⟨0, Nat.zero_le _, rfl, ⟨_, rfl⟩, fun x h => by omega⟩
          case round =>
            obtain ⟨z, hz, rfl, ⟨qz, rfl⟩, hGz⟩ := hrel
            by_cases hlz : z < n
            · have c2 := HF3.out z hlz
              have c3 := HG3.out z hlz
              have n2 := HNUM.out x z hlx hlz
              have n3 := HNUM.out y z hly hlz
              obtain ⟨a, ha⟩ : ∃ a, at2 m x z = a := ⟨_, rfl⟩
              obtain ⟨b, hb⟩ : ∃ b, at2 m y z = b := ⟨_, rfl⟩
              rw [ha] at c2 n2
              rw [hb] at c3 n3
              obtain ⟨n21, n22⟩ := n2
              obtain ⟨n31, n32⟩ := n3
              have HK : Hid (detOk m x y z = decide (a ≤ d + b)) := by show detOk m x y z = _; unfold detOk; rw [ha, hb, HD.out]
              clear ha hb
              by_cases q : d + b < a
              · have HF : Hid (noDet m = false) := noDet_no (by rw [HN.out]; exact hlx) (by rw [HN.out]; exact hly) (by rw [HN.out]; exact hlz) (by rw [HK.out]; exact decide_eq_false (by omega))
                go_wp2
                go_quiet (fail)
                go_wp2
                go_ret
                exact ⟨⟨_, 3, ⟨_, _, rfl⟩, ⟨rfl, by rw [HF.out]; simp⟩⟩, HB.out.trans (by repeat (first | exact Below.refl _ _ | apply Below.drew | apply below_drewN | refine Below.alloc ?_ (by simpa using HB.out.size) _))⟩
              · have q' : a ≤ d + b := by omega
                have HK' : Hid (detOk m x y z = true) := by show detOk m x y z = true; rw [HK.out]; exact decide_eq_true q'
                go_wp2
                go_quiet (fail)
                go_wp2
                go_roundw
                case rel => exact ⟨z + 1, by omega, by go_num, by first | exact ⟨_, rfl⟩ | exact ⟨_, World.drewN_drewN _ _ _⟩, allLt_step hGz.out HK'.out⟩
                case measure => simp [intOf]; omega
            · go_wp2
              go_roundw
              case rel =>
                obtain rfl : z = n := by omega
                first
                | exact ⟨y + 1, by omega, by go_num, ⟨_, rfl⟩, allLt_step hGy.out (allLt_iff.2 hGz.out)⟩
                | ((repeat apply Exists.intro); exact ⟨⟨y + 1, by omega, by go_num, ⟨_, rfl⟩, allLt_step hGy.out (allLt_iff.2 hGz.out)⟩, by repeat (first | rfl | constructor)⟩)
              case measure => simp [intOf]; omega
        · go_wp2
          go_roundw
          case rel =>
            obtain rfl : y = n := by omega
            first
            | exact ⟨x + 1, by omega, by go_num, ⟨_, rfl⟩, allLt_step hGx.out (allLt_iff.2 hGy.out)⟩
            | ((repeat apply Exists.intro); exact ⟨⟨x + 1, by omega, by go_num, ⟨_, rfl⟩, allLt_step hGx.out (allLt_iff.2 hGy.out)⟩, by repeat (first | rfl | constructor)⟩)
          case measure => simp [intOf]; omega
    · go_wp2
      go_ret
      obtain rfl : x = n := by omega
      have e : noDet m = true := by
        unfold noDet
        rw [HN.out]
        exact allLt_iff.2 hGx.out
      exact ⟨⟨_, 0, ⟨_, _, rfl⟩, ⟨rfl, by rw [e]; simp⟩⟩, HB.out.trans (by repeat (first | exact Below.refl _ _ | apply Below.drew | apply below_drewN | refine Below.alloc ?_ (by simpa using HB.out.size) _))⟩
end Go.Proofs.Ytlmhajdhpdpanaa
