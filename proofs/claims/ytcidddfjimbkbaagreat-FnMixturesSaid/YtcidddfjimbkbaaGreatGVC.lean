/- The laws' cut of choices (the rest of them, and how many were cut), on the machine. Conditions: bytes are bytes. -/
import Derived.Test.YtcidddfjimbkbaaGreatBase
import Derived.Test.YtcidddfjimbkbaaGreatME
import Derived.WalkKit
import Derived.Maps.AppendAt
import Derived.Test.YtcidddfjimbkbaaGreatMB
set_option linter.all false
set_option linter.unusedSimpArgs false
set_option linter.unusedVariables false
namespace Go.Proofs.YtcidddfjimbkbaaGreat
open Go Go.RowKit Am

theorem inf8 : (Tryz.prog.info? 5).map (fun i => (i.zero, i.size, i.bytes)) = some (some (.int .u8 0), 1, 1) := by kernel_rfl
theorem own0 (w : World) : (w.alloc (.cells #[] 5)).ownsRow w.heap.size 5 1 (.slice (some ⟨w.heap.size, 0, none⟩) 0 0) 0 [] :=
  ⟨rfl, .inr ⟨w.heap.size, 0, #[], rfl, Nat.le_refl _, Array.getElem?_push_size, Nat.le_refl _, by simp [maxLen], rfl, rfl⟩⟩
theorem own_blk {w : World} {base e size n : Nat} {v : Value} {xs : List Value} (h : w.ownsRow base e size v n xs) : ∀ k, v.ownBlock = some k → base ≤ k := fun k hk => by
  rcases h.2 with ⟨rfl, -⟩ | ⟨g, cap, cur, rfl, hb, -⟩
  · cases hk
  · simp [Value.ownBlock] at hk; omega
theorem cell_alloc0 {w : World} {a : Addr} {v : Value} {o : Obj} (h : w.cell? a = some v) : (w.alloc o).cell? a = some v := (World.grownBy_alloc w o none).cell h (by simp)
set_option maxRecDepth 8000 in
theorem vCut_some (w : World) (ad : Addr) (bs : List Int) (l cap n : Nat) (hl : bs.length = l) (hlc : l ≤ cap) (hcap : (cap : Int) ≤ 9223372036854775807) (hn : n < l) (hn2 : n ≤ 2) (hl2 : (l : Int) ≤ 65536) (hc : ∀ j, j < l → w.cell? (ad.add j) = some (.int .u8 (bs.getD j 0))) :
    Calls Tryz.prog 10 #[.slice (some ad) l cap, .int .i64 n] w fun e w' => ∃ v, e = .returned v ∧ w'.ownsRow w.heap.size 5 1 v (l - n + 1) ((bs.drop n ++ [(n : Int)]).map (Value.int .u8)) ∧ Below w.heap.size w w' := by
  have hlt : decide ((l : Int) < n) = false := by simp; omega
  have hcn : ¬ cap = n := by omega
  have hln : ¬ l - n = 0 := by omega
  have F1 := hide (show ∀ (j : Nat) (u : Value), ((bs.drop n).map (Value.int .u8))[j]? = some u → (w.alloc (.cells #[] 5)).cell? ((ad.add n).add j) = some u from fun j u h => by
    have hj : j < l - n := by
      have := (List.getElem?_eq_some_iff.1 h).1
      simpa [hl] using this
    have h2 := hc (n + j) (by omega)
    rw [add_add]
    refine cell_alloc0 (h2.trans ?_)
    rw [← h]
    simp [List.getD_eq_getElem?_getD, List.getElem?_eq_getElem (show n + j < bs.length by omega)])
  have F2 := hide (show ∀ u ∈ (bs.drop n).map (Value.int .u8), u.oneCell' = true from fun u h => by
    obtain ⟨x, _, rfl⟩ := List.mem_map.1 h
    rfl)
  have F3 := hide (show ((bs.drop n).map (Value.int .u8)).length = (l - n) * 1 by simp [hl])
  obtain ⟨i0, hi, hz0, hz1, hz2⟩ := info_parts inf8
  clear hc hl
  go_enter Tryz.func10, Tryz.ntmps10
  go_wp2_with (first
    | (at_builtin; refine wpList_append_own _ rfl (.tmp 11) (.tmp 14) 22 rfl w.heap.size 5 i0 (.int .u8 0) 1 1 Tryz.underlying22 hi hz0 hz1 hz2 rfl (by decide) _ _ _ rfl (own0 w) (ad.add n) (l - n) (cap - n) ((bs.drop n).map (Value.int .u8)) rfl F3.out F1.out F2.out (by simp only [maxLen]; omega) (by omega) (by simp) ?_; intro v1 w1 hown1 hgrow1 hnil1)
    | (at_builtin; refine wpList_append_own _ rfl (.tmp 15) (.tmp 18) 22 rfl w.heap.size 5 i0 (.int .u8 0) 1 1 Tryz.underlying22 hi hz0 hz1 hz2 rfl (by decide) _ _ _ rfl (hown1.alloc _) ⟨w1.heap.size, 0, none⟩ 1 1 [.int .u8 (n : Int)] rfl rfl (cell_one_new _ _ _) (fun x hx => by simp at hx; subst hx; rfl) (by simp only [maxLen]; omega) (by omega) (by have := hgrow1.size; simp at this ⊢; omega) ?_; intro v2 w2 hown2 hgrow2 hnil2))
  go_ret
  have hs1 := hgrow1.size
  have hb1 : Below w.heap.size w (w.alloc (.cells #[] 5)) := by repeat (first | exact Below.refl _ _ | apply Below.drew | refine Below.setCell ?_ (by first | (simp; done) | (simp; omega)) _ | refine Below.alloc ?_ (by first | (simp; done) | (simp; omega)) _)
  have hb2 := hb1.grown hgrow1 (by simp) fun k hk => own_blk (own0 w) k hk
  have hb3 := hb2.grown (World.grownBy_alloc w1 (.cells #[.int .u8 (n : Int)] 5) none) (by simp at hs1; omega) (by simp)
  have hb4 := hb3.grown hgrow2 (by simp at hs1 ⊢; omega) fun k hk => own_blk hown1 k hk
  exact ⟨v2, rfl, by simpa using hown2, hb4⟩
end Go.Proofs.YtcidddfjimbkbaaGreat
/- The laws' cut of choices where nothing is left; the cut's contract. Conditions: bytes are bytes. -/
set_option linter.all false
set_option linter.unusedSimpArgs false
set_option linter.unusedVariables false
namespace Go.Proofs.YtcidddfjimbkbaaGreat
open Go Go.RowKit Am

theorem wpl_app_nil {P : Program} {ops : Array Oper} {rest : List Oper} {o : Oper} {a : Act} {w : World} {Q : Exit → Act → World → Prop} (hgd : o.guard = none) (s x : Operand) (t : TypeId)
    (ho : o.op = .call { callee := .builtin .append, args := #[s, x], argTypes := #[t, t] }) (base : Nat) (e : TypeId) (i : TypeInfo) (size : Nat) (ht : P.underlying t = some (.slice e)) (hi : P.info? e = some i)
    (v : Value) (n : Nat) (xs : List Value) (hs : a.eval s = v) (hown : w.ownsRow base e size v n xs) (c : Nat) (hx : a.eval x = .slice none 0 c) (h : wpList P ops Q rest (a.put o.dst v) w) : wpList P ops Q (o :: rest) a w := by
  refine wpList_plain hgd fun K hK => ?_
  have hr := run_append_none (P := P) w base t o.type e i size ht hi v n xs hown c
  unfold Oper.wp execOp
  simp only [ho, resolve, invoke, builtin, Sem.run_bind, Sem.run_pure, Result.andThen_ok, List.map_toArray, List.map_cons, List.map_nil, hs, hx, hr]
  exact hK _ _ h
set_option maxRecDepth 8000 in
theorem vCut_end1l (w : World) (ad : Addr) (l cap n : Nat) (hlc : l ≤ cap) (hcap : (cap : Int) ≤ 9223372036854775807) (hn : l < n) (hn2 : n ≤ 2) (hl2 : l ≤ 2) :
    Calls Tryz.prog 10 #[.slice (some ad) l cap, .int .i64 n] w fun e w' => ∃ v, e = .returned v ∧ w'.ownsRow w.heap.size 5 1 v 1 [.int .u8 (l : Int)] ∧ Below w.heap.size w w' := by
  have hll : l - l = 0 := by omega
  have hb1 : Below w.heap.size w (w.alloc (.cells #[] 5)) := by repeat (first | exact Below.refl _ _ | apply Below.drew | refine Below.setCell ?_ (by first | (simp; done) | (simp; omega)) _ | refine Below.alloc ?_ (by first | (simp; done) | (simp; omega)) _)
  have fin : ∀ (v1 : Value) (w1 w2 : World), (w.alloc (.cells #[] 5)).grownBy w1 (some w.heap.size) → w1.ownsRow w.heap.size 5 1 v1 0 [] → (w1.alloc (.cells #[.int .u8 (l : Int)] 5)).grownBy w2 v1.ownBlock → Below w.heap.size w w2 := fun v1 w1 w2 hg1 ho1 hg2 => by
    have hs1 := hg1.size
    have hb2 := hb1.grown hg1 (by simp) fun k hk => own_blk (own0 w) k hk
    have hb3 := hb2.grown (World.grownBy_alloc w1 (.cells #[.int .u8 (l : Int)] 5) none) (by simp at hs1; omega) (by simp)
    exact hb3.grown hg2 (by simp at hs1 ⊢; omega) fun k hk => own_blk ho1 k hk
  obtain ⟨i0, hi, hz0, hz1, hz2⟩ := info_parts inf8
  have fin := hide fin
  clear hb1
  go_enter Tryz.func10, Tryz.ntmps10
  go_wp2_with (first
    | (at_builtin; refine wpList_append_own _ rfl (.tmp 11) (.tmp 14) 22 rfl w.heap.size 5 i0 (.int .u8 0) 1 1 Tryz.underlying22 hi hz0 hz1 hz2 rfl (by decide) _ _ _ rfl (own0 w) (if cap = l then ad else ad.add l) 0 (cap - l) [] (show Value.slice (if cap = l then some ad else some (ad.add l)) 0 (cap - l) = .slice (some (if cap = l then ad else ad.add l)) 0 (cap - l) by split <;> rfl) rfl (fun j u h => by simp at h) (fun x hx => by simp at hx) (by unfold maxLen; omega) (by omega) (by simp) ?_; intro v1 w1 hown1 hgrow1 hnil1)
    | (at_builtin; refine wpList_append_own _ rfl (.tmp 15) (.tmp 18) 22 rfl w.heap.size 5 i0 (.int .u8 0) 1 1 Tryz.underlying22 hi hz0 hz1 hz2 rfl (by decide) _ _ _ rfl (hown1.alloc _) ⟨w1.heap.size, 0, none⟩ 1 1 [.int .u8 (l : Int)] rfl rfl (cell_one_new _ _ _) (fun x hx => by simp at hx; subst hx; rfl) (by unfold maxLen; omega) (by omega) (by have := hgrow1.size; simp at this ⊢; omega) ?_; intro v2 w2 hown2 hgrow2 hnil2))
  all_goals
    go_ret
    exact ⟨_, rfl, by simpa using hown2, fin.out _ _ _ hgrow1 hown1 hgrow2⟩
set_option maxRecDepth 8000 in
theorem vCut_end1e (w : World) (ad : Addr) (l cap n : Nat) (hlc : l ≤ cap) (hcap : (cap : Int) ≤ 9223372036854775807) (hn : l = l) (hn2 : n ≤ 2) (hl2 : l ≤ 2) :
    Calls Tryz.prog 10 #[.slice (some ad) l cap, .int .i64 l] w fun e w' => ∃ v, e = .returned v ∧ w'.ownsRow w.heap.size 5 1 v 1 [.int .u8 (l : Int)] ∧ Below w.heap.size w w' := by
  have hll : l - l = 0 := by omega
  have hb1 : Below w.heap.size w (w.alloc (.cells #[] 5)) := by repeat (first | exact Below.refl _ _ | apply Below.drew | refine Below.setCell ?_ (by first | (simp; done) | (simp; omega)) _ | refine Below.alloc ?_ (by first | (simp; done) | (simp; omega)) _)
  have fin : ∀ (v1 : Value) (w1 w2 : World), (w.alloc (.cells #[] 5)).grownBy w1 (some w.heap.size) → w1.ownsRow w.heap.size 5 1 v1 0 [] → (w1.alloc (.cells #[.int .u8 (l : Int)] 5)).grownBy w2 v1.ownBlock → Below w.heap.size w w2 := fun v1 w1 w2 hg1 ho1 hg2 => by
    have hs1 := hg1.size
    have hb2 := hb1.grown hg1 (by simp) fun k hk => own_blk (own0 w) k hk
    have hb3 := hb2.grown (World.grownBy_alloc w1 (.cells #[.int .u8 (l : Int)] 5) none) (by simp at hs1; omega) (by simp)
    exact hb3.grown hg2 (by simp at hs1 ⊢; omega) fun k hk => own_blk ho1 k hk
  obtain ⟨i0, hi, hz0, hz1, hz2⟩ := info_parts inf8
  have fin := hide fin
  clear hb1
  go_enter Tryz.func10, Tryz.ntmps10
  go_wp2_with (first
    | (at_builtin; refine wpList_append_own _ rfl (.tmp 11) (.tmp 14) 22 rfl w.heap.size 5 i0 (.int .u8 0) 1 1 Tryz.underlying22 hi hz0 hz1 hz2 rfl (by decide) _ _ _ rfl (own0 w) (if cap = l then ad else ad.add l) 0 (cap - l) [] (show Value.slice (if cap = l then some ad else some (ad.add l)) 0 (cap - l) = .slice (some (if cap = l then ad else ad.add l)) 0 (cap - l) by split <;> rfl) rfl (fun j u h => by simp at h) (fun x hx => by simp at hx) (by unfold maxLen; omega) (by omega) (by simp) ?_; intro v1 w1 hown1 hgrow1 hnil1)
    | (at_builtin; refine wpList_append_own _ rfl (.tmp 15) (.tmp 18) 22 rfl w.heap.size 5 i0 (.int .u8 0) 1 1 Tryz.underlying22 hi hz0 hz1 hz2 rfl (by decide) _ _ _ rfl (hown1.alloc _) ⟨w1.heap.size, 0, none⟩ 1 1 [.int .u8 (l : Int)] rfl rfl (cell_one_new _ _ _) (fun x hx => by simp at hx; subst hx; rfl) (by unfold maxLen; omega) (by omega) (by have := hgrow1.size; simp at this ⊢; omega) ?_; intro v2 w2 hown2 hgrow2 hnil2))
  all_goals
    go_ret
    exact ⟨_, rfl, by simpa using hown2, fin.out _ _ _ hgrow1 hown1 hgrow2⟩
set_option maxRecDepth 8000 in
theorem vCut_end0l (w : World) (l cap n : Nat) (hlc : l ≤ cap) (hcap : (cap : Int) ≤ 9223372036854775807) (hn : l < n) (hn2 : n ≤ 2) (hl2 : l ≤ 2) :
    Calls Tryz.prog 10 #[.slice none l cap, .int .i64 n] w fun e w' => ∃ v, e = .returned v ∧ w'.ownsRow w.heap.size 5 1 v 1 [.int .u8 (l : Int)] ∧ Below w.heap.size w w' := by
  have hll : l - l = 0 := by omega
  have hb1 : Below w.heap.size w (w.alloc (.cells #[] 5)) := by repeat (first | exact Below.refl _ _ | apply Below.drew | refine Below.setCell ?_ (by first | (simp; done) | (simp; omega)) _ | refine Below.alloc ?_ (by first | (simp; done) | (simp; omega)) _)
  have hcn : Hid _ := hide (cell_one_new (w.alloc (.cells #[] 5)) (.int .u8 (l : Int)) 5)
  rw [show (w.alloc (.cells #[] 5)).heap.size = w.heap.size + 1 by simp] at hcn
  have fin : ∀ (w2 : World), ((w.alloc (.cells #[] 5)).alloc (.cells #[.int .u8 (l : Int)] 5)).grownBy w2 (some w.heap.size) → Below w.heap.size w w2 := fun w2 hg2 => by
    have hb3 := hb1.grown (World.grownBy_alloc _ (.cells #[.int .u8 (l : Int)] 5) none) (by simp) (by simp)
    exact hb3.grown hg2 (by simp; omega) fun k hk => own_blk (own0 w) k hk
  obtain ⟨i0, hi, hz0, hz1, hz2⟩ := info_parts inf8
  have fin := hide fin
  clear hb1
  go_enter Tryz.func10, Tryz.ntmps10
  go_wp2_with (first
    | (at_builtin; refine wpl_app_nil rfl (.tmp 11) (.tmp 14) 22 rfl w.heap.size 5 i0 1 Tryz.underlying22 hi _ _ _ rfl (own0 w) _ rfl ?_)
    | (at_builtin; refine wpList_append_own _ rfl (.tmp 15) (.tmp 18) 22 rfl w.heap.size 5 i0 (.int .u8 0) 1 1 Tryz.underlying22 hi hz0 hz1 hz2 rfl (by decide) _ _ _ rfl ((own0 w).alloc _) ⟨w.heap.size + 1, 0, none⟩ 1 1 [.int .u8 (l : Int)] rfl rfl hcn.out (fun x hx => by simp at hx; subst hx; rfl) (by unfold maxLen; omega) (by omega) (by simp; omega) ?_; intro v2 w2 hown2 hgrow2 hnil2))
  all_goals
    go_ret
    exact ⟨_, rfl, by simpa using hown2, fin.out _ hgrow2⟩
set_option maxRecDepth 8000 in
theorem vCut_end0e (w : World) (l cap n : Nat) (hlc : l ≤ cap) (hcap : (cap : Int) ≤ 9223372036854775807) (hn : l = l) (hn2 : n ≤ 2) (hl2 : l ≤ 2) :
    Calls Tryz.prog 10 #[.slice none l cap, .int .i64 l] w fun e w' => ∃ v, e = .returned v ∧ w'.ownsRow w.heap.size 5 1 v 1 [.int .u8 (l : Int)] ∧ Below w.heap.size w w' := by
  have hll : l - l = 0 := by omega
  have hb1 : Below w.heap.size w (w.alloc (.cells #[] 5)) := by repeat (first | exact Below.refl _ _ | apply Below.drew | refine Below.setCell ?_ (by first | (simp; done) | (simp; omega)) _ | refine Below.alloc ?_ (by first | (simp; done) | (simp; omega)) _)
  have hcn : Hid _ := hide (cell_one_new (w.alloc (.cells #[] 5)) (.int .u8 (l : Int)) 5)
  rw [show (w.alloc (.cells #[] 5)).heap.size = w.heap.size + 1 by simp] at hcn
  have fin : ∀ (w2 : World), ((w.alloc (.cells #[] 5)).alloc (.cells #[.int .u8 (l : Int)] 5)).grownBy w2 (some w.heap.size) → Below w.heap.size w w2 := fun w2 hg2 => by
    have hb3 := hb1.grown (World.grownBy_alloc _ (.cells #[.int .u8 (l : Int)] 5) none) (by simp) (by simp)
    exact hb3.grown hg2 (by simp; omega) fun k hk => own_blk (own0 w) k hk
  obtain ⟨i0, hi, hz0, hz1, hz2⟩ := info_parts inf8
  have fin := hide fin
  clear hb1
  go_enter Tryz.func10, Tryz.ntmps10
  go_wp2_with (first
    | (at_builtin; refine wpl_app_nil rfl (.tmp 11) (.tmp 14) 22 rfl w.heap.size 5 i0 1 Tryz.underlying22 hi _ _ _ rfl (own0 w) _ rfl ?_)
    | (at_builtin; refine wpList_append_own _ rfl (.tmp 15) (.tmp 18) 22 rfl w.heap.size 5 i0 (.int .u8 0) 1 1 Tryz.underlying22 hi hz0 hz1 hz2 rfl (by decide) _ _ _ rfl ((own0 w).alloc _) ⟨w.heap.size + 1, 0, none⟩ 1 1 [.int .u8 (l : Int)] rfl rfl hcn.out (fun x hx => by simp at hx; subst hx; rfl) (by unfold maxLen; omega) (by omega) (by simp; omega) ?_; intro v2 w2 hown2 hgrow2 hnil2))
  all_goals
    go_ret
    exact ⟨_, rfl, by simpa using hown2, fin.out _ hgrow2⟩
/-- the cut's answer -/
def cutB (bs : List Int) (n : Nat) : List Int := bs.drop n ++ [((min n bs.length : Nat) : Int)]
theorem cutB_rng {bs : List Int} {n : Nat} (hb : ∀ b ∈ bs, 0 ≤ b ∧ b < 256) (hn : n ≤ 2) : ∀ b ∈ cutB bs n, 0 ≤ b ∧ b < 256 := fun b h => by
  unfold cutB at h
  rw [List.mem_append, List.mem_singleton] at h
  rcases h with h | rfl
  · exact hb b (List.mem_of_mem_drop h)
  · omega
/-- owned cells, read from then on -/
theorem own_raw {M : Am.Mem} {w w' : World} {v : Value} {xs : List Int} {n : Nat} (hm : Mem.in_ M w) (hB : Below w.heap.size w w') (hl : xs.length = n) (hn : 0 < n) (h : w'.ownsRow w.heap.size 5 1 v n (xs.map (Value.int .u8))) :
    ∃ M' : Am.Mem, M.le M' ∧ (∀ ad u, M' ad = some u → w'.cell? ad = some u ∧ (M ad = some u ∨ w.heap.size ≤ ad.block)) ∧ SB M' v xs := by
  classical
  rcases h.2 with ⟨-, h0⟩ | ⟨g, cap, cur, rfl, hb, hg, hlc, hcap, hcs, htk⟩
  · omega
  · refine ⟨fun ad => if w.heap.size ≤ ad.block then w'.cell? ad else M ad, fun ad u hu => ?_, fun ad u hu => ?_, ?_⟩
    · have h1 := block_lt (hm ad u hu)
      show (if _ then _ else _) = _
      rw [if_neg (by omega)]
      exact hu
    · by_cases hd : w.heap.size ≤ ad.block
      · have hu : (if w.heap.size ≤ ad.block then w'.cell? ad else M ad) = some u := hu
        rw [if_pos hd] at hu
        exact ⟨hu, .inr hd⟩
      · have hu : (if w.heap.size ≤ ad.block then w'.cell? ad else M ad) = some u := hu
        rw [if_neg hd] at hu
        have h1 := hm ad u hu
        exact ⟨(hB.cell (block_lt h1)).trans h1, .inl hu⟩
    · have hc : ∀ j, j < n → w'.cell? (Addr.add ⟨g, 0, none⟩ j) = some (.int .u8 (xs.getD j 0)) := fun j hj => by
        have h1 : (cur.toList.take (n * 1))[j]? = some (.int .u8 (xs.getD j 0)) := by
          rw [htk, List.getElem?_map, List.getElem?_eq_getElem (by omega)]
          simp [List.getD_eq_getElem?_getD, List.getElem?_eq_getElem (show j < xs.length by omega)]
        rw [List.getElem?_take, if_pos (by omega)] at h1
        rw [add_lit]
        simp [World.cell?, hg]
        simpa using h1
      refine ⟨xs.map (Value.int .u8), ⟨some ⟨g, 0, none⟩, cap, by rw [hl], by omega, by simpa [maxLen] using hcap, fun _ => ⟨_, rfl, fun j hj => ?_⟩⟩, by simp, fun j o hj ho => ?_⟩
      · have hj' : j < xs.length := by simpa using hj
        show (if w.heap.size ≤ (Addr.add ⟨g, 0, none⟩ j).block then w'.cell? _ else M _) = _
        rw [block_add, if_pos hb, hc j (by omega)]
        simp [List.getD_eq_getElem?_getD, List.getElem?_eq_getElem hj']
      · obtain rfl : o = 0 := by omega
        exact ⟨_, by simp [List.getElem?_eq_getElem hj]; rfl, by simp [hj]⟩
theorem vCut_d {bs : List Int} (hl : bs.length ≤ 65536) {n : Nat} (hn : n ≤ 2) : Does Tryz.prog 10 [.lf (.b (.raw bs)), .int n] (.imm (.lf (.b (.raw (cutB bs n))))) := by
  refine ⟨fun _ _ => by kernel_rfl, fun M w us hm ha => ?_⟩
  obtain ⟨u, us', rfl, h1, h2⟩ := args_inv ha
  obtain ⟨u', us'', rfl, h3, h4⟩ := args_inv h2
  obtain rfl := args_inv0 h4
  obtain rfl : u' = .int .i64 n := h3
  obtain ⟨vs, ⟨A, cap, rfl, k1, k2, k3⟩, k4, k5⟩ : SB M u bs := h1
  have key : Calls Tryz.prog 10 #[.slice A bs.length cap, .int .i64 n] w fun e w' => ∃ v, e = .returned v ∧ w'.ownsRow w.heap.size 5 1 v (bs.length - n + 1) ((cutB bs n).map (Value.int .u8)) ∧ Below w.heap.size w w' := by
    by_cases hnl : n < bs.length
    · obtain ⟨v0, hv1, hv2⟩ := k5 0 0 (by omega) (by omega)
      obtain ⟨ad, rfl, hc⟩ := k3 (by rintro rfl; simp at hv1)
      have := vCut_some w ad bs bs.length cap n rfl k1 (by omega) hnl hn (by omega) fun j hj => by
        obtain ⟨v, hv3, hv4⟩ := k5 j 0 hj (by omega)
        rw [Nat.mul_one, Nat.add_zero] at hv3
        have h5 := hc j (List.getElem?_eq_some_iff.1 hv3).1
        rw [(List.getElem?_eq_some_iff.1 hv3).2, hv4] at h5
        exact hm _ _ h5
      unfold cutB
      rw [show min n bs.length = n by omega]
      exact this
    · have e : cutB bs n = [(bs.length : Int)] := by
        unfold cutB
        rw [List.drop_eq_nil_of_le (by omega), show min n bs.length = bs.length by omega]
        rfl
      rw [e, show bs.length - n + 1 = 1 by omega]
      have hc : (cap : Int) ≤ 9223372036854775807 := by omega
      rcases Nat.lt_or_ge bs.length n with hlt | hge
      · cases A with
        | none => exact vCut_end0l w bs.length cap n k1 hc hlt hn (by omega)
        | some ad => exact vCut_end1l w ad bs.length cap n k1 hc hlt hn (by omega)
      · obtain rfl : n = bs.length := by omega
        cases A with
        | none => exact vCut_end0e w bs.length cap bs.length k1 hc rfl hn hn
        | some ad => exact vCut_end1e w ad bs.length cap bs.length k1 hc rfl hn hn
  refine key.mono fun e w' ⟨v, he, ho, hB⟩ => ?_
  obtain ⟨M', m1, m2, m3⟩ := own_raw hm hB (by simp [cutB]) (by omega) ho
  exact ⟨v, M', he, m1, m2, m3, hB⟩
end Go.Proofs.YtcidddfjimbkbaaGreat
