/- Sums of products of a matrix: the walks. Conditions: at most three rows, all of the first one's length; numbers of 0 to 40; factors of at most 10^9. -/
import Derived.Test.YtjleohbjanlamaaProds
namespace Go.Proofs.Ytjleohbjanlamaa
open Go.RowKit

/-- a matrix that can be read, factors for its rows -/
structure MatIn (m : List (List Int)) (ws : List Int) (n : Nat) : Prop where
  pos : 0 < m.length
  le : m.length ≤ 3
  cols : n ≤ 1048576
  row : ∀ r ∈ m, r.length = n
  ent : ∀ r ∈ m, ∀ x ∈ r, 0 ≤ x ∧ x ≤ 40
  len : ws.length = m.length
  fac : ∀ c ∈ ws, -1000000000 ≤ c ∧ c ≤ 1000000000

theorem MatIn.bound {m : List (List Int)} {ws : List Int} {n k : Nat} (h : MatIn m ws n) (hk : k ≤ m.length) : ∀ a ∈ prodsTo (List.replicate n 0) m ws k, -120000000000 ≤ a ∧ a ≤ 120000000000 := by
  intro a ha
  have h1 := prods_bound (List.replicate n 0) (m.take k) (ws.take k) 0 (fun b hb => by rw [List.eq_of_mem_replicate hb]; omega) (fun r hr => h.ent r (List.mem_of_mem_take hr)) (fun c hc => h.fac c (List.mem_of_mem_take hc)) a ha
  have h2 : (m.take k).length ≤ 3 := by have := h.le; simp; omega
  omega

set_option maxRecDepth 100000 in
set_option maxHeartbeats 1000000 in
theorem l11Products_any (w : World) (u v : Value) (m : List (List Int)) (ws : List Int) (n : Nat) (hm : MatIn m ws n) (hx : SlII w u m) (hy : SlI w v ws) :
    Calls Try.prog 57 #[u, v] w (RetI w (prods (List.replicate n 0) m ws)) := by
  obtain ⟨A, c, rfl, hc1, hc2, hcell⟩ := SlO.view hx
  obtain ⟨A', c', rfl, hd1, hd2, hcell'⟩ := hy.view
  obtain ⟨i0, hi, hz0, hz1, hz2⟩ := info_parts infoInt
  have hm0 := hm.pos
  have hm3 := hm.le
  have hmn := hm.cols
  obtain ⟨ad, v0, rfl, hcv0, hr0⟩ := hcell 0 hm0
  obtain ⟨A0, c0, rfl, _, _, _⟩ := SlI.view hr0
  have hl0 := hm.row _ (List.getElem_mem hm0)
  rw [hl0] at hcv0
  have hcv : w.cell? ad = some (.slice A0 n c0) := hcv0
  have HM := hide hm
  have HR := hide (fun k (h : k < m.length) => hm.row _ (List.getElem_mem h))
  have HZ : Hid (prodsTo (List.replicate n 0) m ws 0 = List.replicate n 0) := by show prodsTo _ _ _ 0 = _; simp [prodsTo, prods]
  clear hm hx hy hr0 hl0 hcv0
  go_enter Try.func57, Try.ntmps57
  go_wp2_with (at_make; refine wpList_make_full _ rfl _ _ 30 rfl 0 3 i0 (.int .i64 0) 1 Try.underlying30 hi hz0 hz1 .i64 .i64 _ _ n rfl rfl (by simp) (by simp) (by rw [hz2]; omega) (by simp [maxLen]; omega) (Nat.zero_le _) ?_; intro w1 hown1 hgrow1)
  have hB1 : Below w.heap.size w w1 := (Below.refl _ _).grown hgrow1 (Nat.le_refl _) (by simp)
  have hO1 : OwI w1 w.heap.size (w.heap.size + 1) (.slice (some ⟨w.heap.size, 0, none⟩) n n) (prodsTo (List.replicate n 0) m ws 0) := by
    rw [HZ.out]
    exact ⟨by simpa [RowI, toList_madeCells_one, Value.cells] using hown1, fun g hg => by simp [Value.ownBlock] at hg; omega⟩
  clear hown1 hgrow1
  go_loopw [6] (fun i wr => ∃ k : Nat, k ≤ m.length ∧ i = .int .i64 k ∧ OwI wr w.heap.size (w.heap.size + 1) (.slice (some ⟨w.heap.size, 0, none⟩) n n) (prodsTo (List.replicate n 0) m ws k) ∧ Below w.heap.size w wr) (fun i _ => m.length - (intOf i).toNat)
  case atStart => exact ⟨0, Nat.zero_le _, rfl, hO1, hB1⟩
  case round =>
    obtain ⟨k, hk, rfl, hO, hB⟩ := hrel
    clear hO1 hB1
    by_cases hlt : k < m.length
    · obtain ⟨wo, rfl⟩ : ∃ wo : World, wo = wr := ⟨_, rfl⟩
      obtain ⟨acc, hacc⟩ : ∃ acc, prodsTo (List.replicate n 0) m ws k = acc := ⟨_, rfl⟩
      have hla : acc.length = n := by rw [← hacc, prodsTo_len _ _ _ _ (fun r hr => by simpa using HM.out.row r hr)]; simp
      have hba : ∀ a ∈ acc, -120000000000 ≤ a ∧ a ≤ 120000000000 := by rw [← hacc]; exact HM.out.bound hk
      rw [hacc] at hO
      have HS : Hid (prodsTo (List.replicate n 0) m ws (k + 1) = addRow acc m[k] (ws[k]'(by rw [HM.out.len]; exact hlt))) := by
        show prodsTo _ _ _ (k + 1) = _
        rw [prodsTo_succ _ _ _ k hlt (by rw [HM.out.len]; exact hlt), hacc]
      have hkw : k < ws.length := by rw [HM.out.len]; exact hlt
      obtain ⟨ad1, rv, e1, hcr, hrr⟩ := hcell k hlt
      cases e1
      obtain ⟨A1, c1, rfl, hrc1, hrc2, hrow⟩ := SlI.view hrr
      obtain ⟨ad2, rfl, hcw⟩ := hcell' k hkw
      have hrl := HR.out k hlt
      have HE : Hid (∀ x ∈ m[k], 0 ≤ x ∧ x ≤ 40) := HM.out.ent _ (List.getElem_mem hlt)
      have hfc := HM.out.fac _ (List.getElem_mem hkw)
      obtain ⟨cc, hcc⟩ : ∃ cc, ws[k] = cc := ⟨_, rfl⟩
      rw [hcc] at hcw hfc HS
      obtain ⟨row, hrw⟩ : ∃ row, m[k] = row := ⟨_, rfl⟩
      rw [hrw] at hcr hrow hrl HE HS hrc1
      rw [hrl] at hcr hrc1
      have HROW : Hid (∀ j (hj : j < row.length), ∃ ad, A1 = some ad ∧ w.cell? (ad.add j) = some (.int .i64 row[j])) := hrow
      have HRL := hide hrl
      have HLA := hide hla
      have HBA : Hid (∀ a ∈ acc, -120000000000 ≤ a ∧ a ≤ 120000000000) := hba
      have HMT := hide (mixTo_zero acc row cc)
      have hO' : OwI wo w.heap.size (w.heap.size + 1) (.slice (some ⟨w.heap.size, 0, none⟩) n n) (mixTo acc row cc 0) := by rw [HMT.out]; exact hO
      have hcr' := (hB.cell (block_lt hcr)).trans hcr
      clear hacc hla hba hcell hcell' hrr hcc hrw hrl hrow hO
      go_wp2
      go_loopw [7] (fun i wr => ∃ j : Nat, j ≤ n ∧ i = .int .i64 j ∧ OwI wr w.heap.size (w.heap.size + 1) (.slice (some ⟨w.heap.size, 0, none⟩) n n) (mixTo acc row cc j) ∧ Below w.heap.size w wr) (fun i _ => n - (intOf i).toNat)
      case atStart => exact ⟨0, Nat.zero_le _, rfl, hO', hB⟩
      case round =>
        obtain ⟨j, hj, rfl, hO2, hB2⟩ := hrel
        clear hO' hB hcr'
        by_cases hlj : j < n
        · have hla := HLA.out
          have hrl := HRL.out
          have hlr : row.length = acc.length := by omega
          have hml := mixTo_len acc row cc j hlr (by omega)
          have hja : j < acc.length := by omega
          have hjr : j < row.length := by omega
          obtain ⟨adr, rfl, hx⟩ := HROW.out j hjr
          have f1 := hO2.cellAt (by omega) (j := j) (by omega)
          have f1e : (mixTo acc row cc j)[j]'(by omega) = acc[j] := by
            have := mixTo_at acc row cc j hlr hja
            rw [List.getElem?_eq_getElem (by omega)] at this
            exact Option.some.inj this
          rw [f1e] at f1
          have f2 := hO2.free (by omega) j
          have f3 := (hB2.cell (block_lt hcw)).trans hcw
          have f4 := (hB2.cell (block_lt hcr)).trans hcr
          have f5 := (hB2.cell (block_lt hx)).trans hx
          have b1 := HBA.out _ (List.getElem_mem hja)
          have b2 := HE.out _ (List.getElem_mem hjr)
          obtain ⟨⟨b3, b4⟩, b5, b6⟩ := prod_step b1 b2 hfc
          have HS2 : Hid (OwI (wr.setCell ⟨w.heap.size, j, none⟩ (.int .i64 (acc[j] + cc * row[j]))) w.heap.size (w.heap.size + 1) (.slice (some ⟨w.heap.size, 0, none⟩) n n) ((mixTo acc row cc j).set j (acc[j] + cc * row[j])) ∧ Frm w.heap.size (w.heap.size + 1) wr (wr.setCell ⟨w.heap.size, j, none⟩ (.int .i64 (acc[j] + cc * row[j])))) := hO2.set (by omega) j (acc[j] + cc * row[j])
          have HS3 : Hid ((mixTo acc row cc j).set j (acc[j] + cc * row[j]) = mixTo acc row cc (j + 1)) := mixTo_set acc row cc j hlr hja
          clear hla hrl hlr hml f1e hx hcr hcw b1 b2
          go_wp2
          go_region
          go_wp2
          go_roundw
          case rel => exact ⟨j + 1, by omega, by go_num, (by rw [← HS3.out]; exact HS2.out.1.drew), (hB2.trans (HS2.out.2.below (Nat.le_refl _) hB2.size)).drew⟩
          case measure => simp [intOf]; omega
        · go_wp2
          go_roundw
          case rel =>
            refine ⟨k + 1, by omega, by go_num, ?_, hB2⟩
            rw [HS.out, ← mixTo_all acc row cc (by rw [HRL.out, HLA.out]), HLA.out]
            obtain rfl : j = n := by omega
            exact hO2
          case measure => simp [intOf]; omega
    · go_wp2
      go_ret
      obtain rfl : k = m.length := by omega
      have e : prodsTo (List.replicate n 0) m ws m.length = prods (List.replicate n 0) m ws := by
        unfold prodsTo
        rw [List.take_of_length_le (Nat.le_refl _), List.take_of_length_le (by rw [HM.out.len]; exact Nat.le_refl _)]
      rw [e] at hO
      exact ⟨_, rfl, hO.mono (Nat.le_refl _) (hO.lt rfl), hB⟩
set_option maxRecDepth 100000 in
set_option maxHeartbeats 1000000 in
theorem means_any (w : World) (u v : Value) (m : List (List Int)) (ws : List Int) (n : Nat) (hm : MatIn m ws n) (hx : SlII w u m) (hy : SlI w v ws) :
    Calls Try.prog 63 #[u, v] w (RetI w (prods (List.replicate n 0) m ws)) := by
  obtain ⟨A, c, rfl, hc1, hc2, hcell⟩ := SlO.view hx
  obtain ⟨A', c', rfl, hd1, hd2, hcell'⟩ := hy.view
  obtain ⟨i0, hi, hz0, hz1, hz2⟩ := info_parts infoInt
  have hm0 := hm.pos
  have hm3 := hm.le
  have hmn := hm.cols
  obtain ⟨ad, v0, rfl, hcv0, hr0⟩ := hcell 0 hm0
  obtain ⟨A0, c0, rfl, _, _, _⟩ := SlI.view hr0
  have hl0 := hm.row _ (List.getElem_mem hm0)
  rw [hl0] at hcv0
  have hcv : w.cell? ad = some (.slice A0 n c0) := hcv0
  have HM := hide hm
  have HR := hide (fun k (h : k < m.length) => hm.row _ (List.getElem_mem h))
  have HZ : Hid (prodsTo (List.replicate n 0) m ws 0 = List.replicate n 0) := by show prodsTo _ _ _ 0 = _; simp [prodsTo, prods]
  clear hm hx hy hr0 hl0 hcv0
  go_enter Try.func63, Try.ntmps63
  go_wp2_with (at_make; refine wpList_make_full _ rfl _ _ 30 rfl 0 3 i0 (.int .i64 0) 1 Try.underlying30 hi hz0 hz1 .i64 .i64 _ _ n rfl rfl (by simp) (by simp) (by rw [hz2]; omega) (by simp [maxLen]; omega) (Nat.zero_le _) ?_; intro w1 hown1 hgrow1)
  have hB1 : Below w.heap.size w w1 := (Below.refl _ _).grown hgrow1 (Nat.le_refl _) (by simp)
  have hO1 : OwI w1 w.heap.size (w.heap.size + 1) (.slice (some ⟨w.heap.size, 0, none⟩) n n) (prodsTo (List.replicate n 0) m ws 0) := by
    rw [HZ.out]
    exact ⟨by simpa [RowI, toList_madeCells_one, Value.cells] using hown1, fun g hg => by simp [Value.ownBlock] at hg; omega⟩
  clear hown1 hgrow1
  go_loopw [17] (fun i wr => ∃ k : Nat, k ≤ m.length ∧ i = .int .i64 k ∧ OwI wr w.heap.size (w.heap.size + 1) (.slice (some ⟨w.heap.size, 0, none⟩) n n) (prodsTo (List.replicate n 0) m ws k) ∧ Below w.heap.size w wr) (fun i _ => m.length - (intOf i).toNat)
  case atStart => exact ⟨0, Nat.zero_le _, rfl, hO1, hB1⟩
  case round =>
    obtain ⟨k, hk, rfl, hO, hB⟩ := hrel
    clear hO1 hB1
    by_cases hlt : k < m.length
    · obtain ⟨wo, rfl⟩ : ∃ wo : World, wo = wr := ⟨_, rfl⟩
      obtain ⟨acc, hacc⟩ : ∃ acc, prodsTo (List.replicate n 0) m ws k = acc := ⟨_, rfl⟩
      have hla : acc.length = n := by rw [← hacc, prodsTo_len _ _ _ _ (fun r hr => by simpa using HM.out.row r hr)]; simp
      have hba : ∀ a ∈ acc, -120000000000 ≤ a ∧ a ≤ 120000000000 := by rw [← hacc]; exact HM.out.bound hk
      rw [hacc] at hO
      have HS : Hid (prodsTo (List.replicate n 0) m ws (k + 1) = addRow acc m[k] (ws[k]'(by rw [HM.out.len]; exact hlt))) := by
        show prodsTo _ _ _ (k + 1) = _
        rw [prodsTo_succ _ _ _ k hlt (by rw [HM.out.len]; exact hlt), hacc]
      have hkw : k < ws.length := by rw [HM.out.len]; exact hlt
      obtain ⟨ad1, rv, e1, hcr, hrr⟩ := hcell k hlt
      cases e1
      obtain ⟨A1, c1, rfl, hrc1, hrc2, hrow⟩ := SlI.view hrr
      obtain ⟨ad2, rfl, hcw⟩ := hcell' k hkw
      have hrl := HR.out k hlt
      have HE : Hid (∀ x ∈ m[k], 0 ≤ x ∧ x ≤ 40) := HM.out.ent _ (List.getElem_mem hlt)
      have hfc := HM.out.fac _ (List.getElem_mem hkw)
      obtain ⟨cc, hcc⟩ : ∃ cc, ws[k] = cc := ⟨_, rfl⟩
      rw [hcc] at hcw hfc HS
      obtain ⟨row, hrw⟩ : ∃ row, m[k] = row := ⟨_, rfl⟩
      rw [hrw] at hcr hrow hrl HE HS hrc1
      rw [hrl] at hcr hrc1
      have HROW : Hid (∀ j (hj : j < row.length), ∃ ad, A1 = some ad ∧ w.cell? (ad.add j) = some (.int .i64 row[j])) := hrow
      have HRL := hide hrl
      have HLA := hide hla
      have HBA : Hid (∀ a ∈ acc, -120000000000 ≤ a ∧ a ≤ 120000000000) := hba
      have HMT := hide (mixTo_zero acc row cc)
      have hO' : OwI wo w.heap.size (w.heap.size + 1) (.slice (some ⟨w.heap.size, 0, none⟩) n n) (mixTo acc row cc 0) := by rw [HMT.out]; exact hO
      have hcr' := (hB.cell (block_lt hcr)).trans hcr
      clear hacc hla hba hcell hcell' hrr hcc hrw hrl hrow hO
      go_wp2
      go_loopw [24] (fun i wr => ∃ j : Nat, j ≤ n ∧ i = .int .i64 j ∧ OwI wr w.heap.size (w.heap.size + 1) (.slice (some ⟨w.heap.size, 0, none⟩) n n) (mixTo acc row cc j) ∧ Below w.heap.size w wr) (fun i _ => n - (intOf i).toNat)
      case atStart => exact ⟨0, Nat.zero_le _, rfl, hO', hB⟩
      case round =>
        obtain ⟨j, hj, rfl, hO2, hB2⟩ := hrel
        clear hO' hB hcr'
        by_cases hlj : j < n
        · have hla := HLA.out
          have hrl := HRL.out
          have hlr : row.length = acc.length := by omega
          have hml := mixTo_len acc row cc j hlr (by omega)
          have hja : j < acc.length := by omega
          have hjr : j < row.length := by omega
          obtain ⟨adr, rfl, hx⟩ := HROW.out j hjr
          have f1 := hO2.cellAt (by omega) (j := j) (by omega)
          have f1e : (mixTo acc row cc j)[j]'(by omega) = acc[j] := by
            have := mixTo_at acc row cc j hlr hja
            rw [List.getElem?_eq_getElem (by omega)] at this
            exact Option.some.inj this
          rw [f1e] at f1
          have f2 := hO2.free (by omega) j
          have f3 := (hB2.cell (block_lt hcw)).trans hcw
          have f4 := (hB2.cell (block_lt hcr)).trans hcr
          have f5 := (hB2.cell (block_lt hx)).trans hx
          have b1 := HBA.out _ (List.getElem_mem hja)
          have b2 := HE.out _ (List.getElem_mem hjr)
          obtain ⟨⟨b3, b4⟩, b5, b6⟩ := prod_step b1 b2 hfc
          have HS2 : Hid (OwI (wr.setCell ⟨w.heap.size, j, none⟩ (.int .i64 (acc[j] + cc * row[j]))) w.heap.size (w.heap.size + 1) (.slice (some ⟨w.heap.size, 0, none⟩) n n) ((mixTo acc row cc j).set j (acc[j] + cc * row[j])) ∧ Frm w.heap.size (w.heap.size + 1) wr (wr.setCell ⟨w.heap.size, j, none⟩ (.int .i64 (acc[j] + cc * row[j])))) := hO2.set (by omega) j (acc[j] + cc * row[j])
          have HS3 : Hid ((mixTo acc row cc j).set j (acc[j] + cc * row[j]) = mixTo acc row cc (j + 1)) := mixTo_set acc row cc j hlr hja
          clear hla hrl hlr hml f1e hx hcr hcw b1 b2
          go_wp2
          go_region
          go_wp2
          go_roundw
          case rel => exact ⟨j + 1, by omega, by go_num, (by rw [← HS3.out]; exact HS2.out.1.drew), (hB2.trans (HS2.out.2.below (Nat.le_refl _) hB2.size)).drew⟩
          case measure => simp [intOf]; omega
        · go_wp2
          go_roundw
          case rel =>
            refine ⟨k + 1, by omega, by go_num, ?_, hB2⟩
            rw [HS.out, ← mixTo_all acc row cc (by rw [HRL.out, HLA.out]), HLA.out]
            obtain rfl : j = n := by omega
            exact hO2
          case measure => simp [intOf]; omega
    · go_wp2
      go_ret
      obtain rfl : k = m.length := by omega
      have e : prodsTo (List.replicate n 0) m ws m.length = prods (List.replicate n 0) m ws := by
        unfold prodsTo
        rw [List.take_of_length_le (Nat.le_refl _), List.take_of_length_le (by rw [HM.out.len]; exact Nat.le_refl _)]
      rw [e] at hO
      exact ⟨_, rfl, hO.mono (Nat.le_refl _) (hO.lt rfl), hB⟩
end Go.Proofs.Ytjleohbjanlamaa
