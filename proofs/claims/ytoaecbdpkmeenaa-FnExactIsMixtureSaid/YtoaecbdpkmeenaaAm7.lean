/- Slices that the call makes: literals, make, append, stores into elements; a slice that is given away. Conditions: those that each names. -/
import Derived.Test.YtoaecbdpkmeenaaAm6
import Derived.OwnWalk
namespace Go.Proofs.Ytoaecbdpkmeenaa
namespace Am
open Go Go.RowKit

/-! ### contents -/
def Cn.app : Cn → Cn → Option Cn
  | .ints xs, .ints ys => some (.ints (xs ++ ys))
  | .ii xs, .ii ys => some (.ii (xs ++ ys))
  | .iii xs, .iii ys => some (.iii (xs ++ ys))
  | .k n xs, .k m ys => bif Nat.beq n m then some (.k n (xs ++ ys)) else none
  | .ki n xs, .ki m ys => bif Nat.beq n m then some (.ki n (xs ++ ys)) else none
  | .kii n xs, .kii m ys => bif Nat.beq n m then some (.kii n (xs ++ ys)) else none
  | _, _ => none
def intsOf : List Lf → Option (List Int)
  | [] => some []
  | .b (.val (.int .i64 m)) :: xs => (intsOf xs).map (m :: ·)
  | _ => none
/-- one element -/
def lit1 : TV → Option Cn
  | .one (.b (.val (.int .i64 m))) => some (.ints [m])
  | .one (.b (.sl (.ints ys))) => some (.ii [ys])
  | .one (.b (.sl (.ii ys))) => some (.iii [ys])
  | .one (.b (.sl (.k n ys))) => some (.ki n [ys])
  | .one (.b (.sl (.ki n ys))) => some (.kii n [ys])
  | .agg xs => (intsOf xs).map fun ms => .k ms.length [ms]
  | _ => none
def Cn.put (c : Cn) (j o : Nat) (v : TV) : Option Cn := match c, v with
  | .ints xs, .one (.b (.val (.int .i64 m))) => some (.ints (xs.set j m))
  | .ii xs, .one (.b (.sl (.ints ys))) => some (.ii (xs.set j ys))
  | .iii xs, .one (.b (.sl (.ii ys))) => some (.iii (xs.set j ys))
  | .ki n xs, .one (.b (.sl (.k m ys))) => bif Nat.beq n m then some (.ki n (xs.set j ys)) else none
  | .kii n xs, .one (.b (.sl (.ki m ys))) => bif Nat.beq n m then some (.kii n (xs.set j ys)) else none
  | .k n xs, .one (.b (.val (.int .i64 m))) => some (.k n (xs.set j ((xs.getD j []).set o m)))
  | .k n xs, .agg ls => match intsOf ls with
    | some ms => bif Nat.beq ms.length n && Nat.beq o 0 then some (.k n (xs.set j ms)) else none
    | none => none
  | _, _ => none
/-- no element yet, of type e -/
def emp (cf : Cfg) (e : Nat) : Option Cn := match cf.ty e with
  | .int => some (.ints [])
  | .slice e2 => match cf.ty e2 with
    | .int => some (.ii [])
    | .slice e3 => match cf.ty e3 with
      | .int => some (.iii [])
      | .struct _ => some (.kii (cf.sz e3) [])
      | .arr _ _ => some (.kii (cf.sz e3) [])
      | _ => none
    | .struct _ => some (.ki (cf.sz e2) [])
    | .arr _ _ => some (.ki (cf.sz e2) [])
    | _ => none
  | .struct _ => some (.k (cf.sz e) [])
  | .arr _ _ => some (.k (cf.sz e) [])
  | _ => none
theorem emp_len {cf : Cfg} {e : Nat} {c : Cn} (h : emp cf e = some c) : c.len = 0 ∧ c.ok := by
  unfold emp at h
  repeat (split at h <;> first | (cases h; exact ⟨rfl, by simp [Cn.ok]⟩) | (cases h; done) | skip)

theorem beq_eq {n m : Nat} {α : Type} {x y : α} (h : (bif Nat.beq n m then some x else none) = some y) : n = m ∧ x = y := by
  cases e : Nat.beq n m with
  | true => rw [e] at h; cases h; exact ⟨Nat.eq_of_beq_eq_true e, rfl⟩
  | false => rw [e] at h; cases h
theorem getD_app {α : Type} (xs ys : List α) (d : α) (j : Nat) : (xs ++ ys).getD j d = if j < xs.length then xs.getD j d else ys.getD (j - xs.length) d := by
  simp only [List.getD_eq_getElem?_getD]
  by_cases h : j < xs.length
  · rw [if_pos h, List.getElem?_append_left h]
  · rw [if_neg h, List.getElem?_append_right (by omega)]
theorem getD_l {α : Type} (xs ys : List α) (d : α) {j : Nat} (h : j < xs.length) : (xs ++ ys).getD j d = xs.getD j d := by rw [getD_app, if_pos h]
theorem getD_r {α : Type} (xs ys : List α) (d : α) {j : Nat} (h : ¬ j < xs.length) : (xs ++ ys).getD j d = ys.getD (j - xs.length) d := by rw [getD_app, if_neg h]
theorem app_spec {c c2 c' : Cn} (h : c.app c2 = some c') : c'.len = c.len + c2.len ∧ c'.w = c.w ∧ c2.w = c.w ∧ (c.ok → c2.ok → c'.ok) ∧ ∀ j o, (j < c.len → c'.cell j o = c.cell j o) ∧ (¬ j < c.len → c'.cell j o = c2.cell (j - c.len) o) := by
  cases c <;> cases c2 <;> simp only [Cn.app] at h <;> first | (cases h; done) | skip
  case ints.ints => cases h; exact ⟨by simp [Cn.len], rfl, rfl, fun _ _ => trivial, fun j o => ⟨fun h9 => by simp only [Cn.cell]; rw [getD_l _ _ _ h9], fun h9 => by simp only [Cn.cell]; rw [getD_r _ _ _ h9]; rfl⟩⟩
  case ii.ii => cases h; exact ⟨by simp [Cn.len], rfl, rfl, fun _ _ => trivial, fun j o => ⟨fun h9 => by simp only [Cn.cell]; rw [getD_l _ _ _ h9], fun h9 => by simp only [Cn.cell]; rw [getD_r _ _ _ h9]; rfl⟩⟩
  case iii.iii => cases h; exact ⟨by simp [Cn.len], rfl, rfl, fun _ _ => trivial, fun j o => ⟨fun h9 => by simp only [Cn.cell]; rw [getD_l _ _ _ h9], fun h9 => by simp only [Cn.cell]; rw [getD_r _ _ _ h9]; rfl⟩⟩
  case k.k =>
    obtain ⟨rfl, rfl⟩ := beq_eq h
    exact ⟨by simp [Cn.len], rfl, rfl, fun h1 h2 x hx => (List.mem_append.1 hx).elim (h1 x) (h2 x), fun j o => ⟨fun h9 => by simp only [Cn.cell]; rw [getD_l _ _ _ h9], fun h9 => by simp only [Cn.cell]; rw [getD_r _ _ _ h9]; rfl⟩⟩
  case ki.ki => obtain ⟨rfl, rfl⟩ := beq_eq h; exact ⟨by simp [Cn.len], rfl, rfl, fun _ _ => trivial, fun j o => ⟨fun h9 => by simp only [Cn.cell]; rw [getD_l _ _ _ h9], fun h9 => by simp only [Cn.cell]; rw [getD_r _ _ _ h9]; rfl⟩⟩
  case kii.kii => obtain ⟨rfl, rfl⟩ := beq_eq h; exact ⟨by simp [Cn.len], rfl, rfl, fun _ _ => trivial, fun j o => ⟨fun h9 => by simp only [Cn.cell]; rw [getD_l _ _ _ h9], fun h9 => by simp only [Cn.cell]; rw [getD_r _ _ _ h9]; rfl⟩⟩
theorem app_rel {M : Mem} {c c2 c' : Cn} {vs vs2 : List Value} (h : c.app c2 = some c') (h1 : c.rel M vs) (h2 : c2.rel M vs2) : c'.rel M (vs ++ vs2) := by
  obtain ⟨e1, e2, e3, e4, e5⟩ := app_spec h
  have hl1 := h1.2.1
  have hl2 := h2.2.1
  refine ⟨e4 h1.1 h2.1, by rw [List.length_append, hl1, hl2, e1, e2, e3, Nat.add_mul], fun j o hj ho => ?_⟩
  rw [e2] at ho ⊢
  show ∃ u, (vs ++ vs2)[j * c.w + o]? = some u ∧ B.rel M (c'.cell j o) u
  by_cases hlt : j < c.len
  · rw [(e5 j o).1 hlt]
    obtain ⟨u, h3, h4⟩ := h1.2.2 j o hlt ho
    refine ⟨u, ?_, h4⟩
    rw [List.getElem?_append_left (List.getElem?_eq_some_iff.1 h3).1]
    exact h3
  · rw [(e5 j o).2 hlt]
    obtain ⟨u, h3, h4⟩ := h2.2.2 (j - c.len) o (by omega) (by rw [e3]; exact ho)
    refine ⟨u, ?_, h4⟩
    have hm : j * c.w + o = c.len * c.w + ((j - c.len) * c.w + o) := by
      have : j * c.w = c.len * c.w + (j - c.len) * c.w := by rw [← Nat.add_mul]; congr 1; omega
      omega
    rw [List.getElem?_append_right (by rw [hl1, hm]; omega), hl1]
    rw [e3] at h3
    rw [show j * c.w + o - c.len * c.w = (j - c.len) * c.w + o by omega]
    exact h3
theorem intsOf_spec : ∀ {xs : List Lf} {ms : List Int}, intsOf xs = some ms → xs = ms.map fun m => .b (.val (.int .i64 m))
  | [], ms, h => by cases h; rfl
  | x :: xs, ms, h => by
    unfold intsOf at h
    split at h
    · rename_i e; cases e
    · rename_i m xs' e
      cases e
      simp only [Option.map_eq_some_iff] at h
      obtain ⟨ms', h1, rfl⟩ := h
      rw [intsOf_spec h1]
      rfl
    · cases h
theorem lit1_rel {φ : Nat → Value} {M : Mem} {v : TV} {c : Cn} {us : List Value} (h : lit1 v = some c) (h1 : LsRel φ M v.cs us) : c.rel M us ∧ c.len = 1 := by
  have hone : ∀ x, v = .one x → ∃ u, us = [u] ∧ x.rel φ M u := fun x e => by
    subst e
    obtain ⟨h2, h3⟩ := h1
    match us, h2 with
    | [u], _ => exact ⟨u, rfl, h3 0 (by simp [TV.cs]) (by simp)⟩
  unfold lit1 at h
  split at h
  · cases h
    obtain ⟨u, rfl, h2⟩ := hone _ rfl
    exact ⟨⟨trivial, rfl, fun j o hj ho => by
      simp only [Cn.len, List.length_singleton, Cn.w] at hj ho
      obtain rfl : j = 0 := by omega
      obtain rfl : o = 0 := by omega
      exact ⟨u, rfl, h2⟩⟩, rfl⟩
  all_goals first
    | (cases h
       obtain ⟨u, rfl, h2⟩ := hone _ rfl
       exact ⟨⟨trivial, rfl, fun j o hj ho => by
         simp only [Cn.len, List.length_singleton, Cn.w] at hj ho
         obtain rfl : j = 0 := by omega
         obtain rfl : o = 0 := by omega
         exact ⟨u, rfl, h2⟩⟩, rfl⟩)
    | skip
  · rename_i xs
    simp only [Option.map_eq_some_iff] at h
    obtain ⟨ms, h2, rfl⟩ := h
    have h3 := intsOf_spec h2
    subst h3
    obtain ⟨h4, h5⟩ := h1
    simp only [TV.cs, List.length_map] at h4
    refine ⟨⟨fun x hx => by simp at hx; rw [hx], by simp [Cn.len, Cn.w, h4], fun j o hj ho => ?_⟩, rfl⟩
    simp only [Cn.len, List.length_singleton, Cn.w] at hj ho ⊢
    obtain rfl : j = 0 := by omega
    refine ⟨us[o]'(by omega), by rw [Nat.zero_mul, Nat.zero_add, List.getElem?_eq_getElem (by omega)], ?_⟩
    have h6 := h5 o (by simpa [TV.cs] using ho) (by omega)
    simp only [TV.cs, List.getElem_map] at h6
    show us[o]'(by omega) = _
    rw [show us[o]'(by omega) = Value.int .i64 ms[o] from h6]
    simp [Cn.cell, List.getD_eq_getElem?_getD, ho]
  · cases h
theorem getD_set {α : Type} (xs : List α) (j k : Nat) (y d : α) (hj : j < xs.length) : (xs.set j y).getD k d = if k = j then y else xs.getD k d := by
  simp only [List.getD_eq_getElem?_getD, List.getElem?_set]
  by_cases h : j = k
  · subst h; simp [hj]
  · rw [if_neg h, if_neg (fun e => h e.symm)]
theorem put_spec {c c' : Cn} {j o : Nat} {v : TV} (h : c.put j o v = some c') (hj : j < c.len) (ho : o + v.cs.length ≤ c.w) : c'.len = c.len ∧ c'.w = c.w ∧ (c.ok → c'.ok) ∧
    ∀ φ M j' o', j' < c.len → o' < c.w → c.ok → (j' = j ∧ o ≤ o' ∧ o' < o + v.cs.length → ∀ u, (∀ x, v.cs[o' - o]? = some x → Lf.rel φ M x u) → (c'.cell j' o').rel M u) ∧ (¬ (j' = j ∧ o ≤ o' ∧ o' < o + v.cs.length) → c'.cell j' o' = c.cell j' o') := by
  unfold Cn.put at h
  split at h
  case h_1 xs m =>
    cases h
    simp only [Cn.len, Cn.w, TV.cs, List.length_singleton] at hj ho
    refine ⟨by simp [Cn.len], rfl, fun _ => trivial, fun φ M j' o' hj' ho' _ => ⟨fun hc u hu => ?_, fun hc => ?_⟩⟩
    · obtain ⟨rfl, h2, h3⟩ := hc
      simp only [Cn.cell, getD_set _ _ _ _ _ hj, if_true]
      exact hu (.b (.val (.int .i64 m))) (by simp only [Cn.w] at ho'; simp [TV.cs, show o' - o = 0 by omega])
    · simp only [Cn.cell, getD_set _ _ _ _ _ hj]
      rw [if_neg fun e => hc ⟨e, by simp only [Cn.w] at ho'; omega, by simp only [Cn.w, TV.cs, List.length_singleton] at ho' ⊢; omega⟩]
  case h_2 xs ys =>
    cases h
    simp only [Cn.len, Cn.w, TV.cs, List.length_singleton] at hj ho
    refine ⟨by simp [Cn.len], rfl, fun _ => trivial, fun φ M j' o' hj' ho' _ => ⟨fun hc u hu => ?_, fun hc => ?_⟩⟩
    · obtain ⟨rfl, h2, h3⟩ := hc
      simp only [Cn.cell, getD_set _ _ _ _ _ hj, if_true]
      exact hu (.b (.sl (.ints ys))) (by simp only [Cn.w] at ho'; simp [TV.cs, show o' - o = 0 by omega])
    · simp only [Cn.cell, getD_set _ _ _ _ _ hj]
      rw [if_neg fun e => hc ⟨e, by simp only [Cn.w] at ho'; omega, by simp only [Cn.w, TV.cs, List.length_singleton] at ho' ⊢; omega⟩]
  case h_3 xs ys =>
    cases h
    simp only [Cn.len, Cn.w, TV.cs, List.length_singleton] at hj ho
    refine ⟨by simp [Cn.len], rfl, fun _ => trivial, fun φ M j' o' hj' ho' _ => ⟨fun hc u hu => ?_, fun hc => ?_⟩⟩
    · obtain ⟨rfl, h2, h3⟩ := hc
      simp only [Cn.cell, getD_set _ _ _ _ _ hj, if_true]
      exact hu (.b (.sl (.ii ys))) (by simp only [Cn.w] at ho'; simp [TV.cs, show o' - o = 0 by omega])
    · simp only [Cn.cell, getD_set _ _ _ _ _ hj]
      rw [if_neg fun e => hc ⟨e, by simp only [Cn.w] at ho'; omega, by simp only [Cn.w, TV.cs, List.length_singleton] at ho' ⊢; omega⟩]
  case h_4 n xs m ys =>
    obtain ⟨rfl, rfl⟩ := beq_eq h
    simp only [Cn.len, Cn.w, TV.cs, List.length_singleton] at hj ho
    refine ⟨by simp [Cn.len], rfl, fun _ => trivial, fun φ M j' o' hj' ho' _ => ⟨fun hc u hu => ?_, fun hc => ?_⟩⟩
    · obtain ⟨rfl, h2, h3⟩ := hc
      simp only [Cn.cell, getD_set _ _ _ _ _ hj, if_true]
      exact hu (.b (.sl (.k n ys))) (by simp only [Cn.w] at ho'; simp [TV.cs, show o' - o = 0 by omega])
    · simp only [Cn.cell, getD_set _ _ _ _ _ hj]
      rw [if_neg fun e => hc ⟨e, by simp only [Cn.w] at ho'; omega, by simp only [Cn.w, TV.cs, List.length_singleton] at ho' ⊢; omega⟩]
  case h_5 n xs m ys =>
    obtain ⟨rfl, rfl⟩ := beq_eq h
    simp only [Cn.len, Cn.w, TV.cs, List.length_singleton] at hj ho
    refine ⟨by simp [Cn.len], rfl, fun _ => trivial, fun φ M j' o' hj' ho' _ => ⟨fun hc u hu => ?_, fun hc => ?_⟩⟩
    · obtain ⟨rfl, h2, h3⟩ := hc
      simp only [Cn.cell, getD_set _ _ _ _ _ hj, if_true]
      exact hu (.b (.sl (.ki n ys))) (by simp only [Cn.w] at ho'; simp [TV.cs, show o' - o = 0 by omega])
    · simp only [Cn.cell, getD_set _ _ _ _ _ hj]
      rw [if_neg fun e => hc ⟨e, by simp only [Cn.w] at ho'; omega, by simp only [Cn.w, TV.cs, List.length_singleton] at ho' ⊢; omega⟩]
  case h_6 n xs m =>
    cases h
    simp only [Cn.len, Cn.w, TV.cs, List.length_singleton] at hj ho
    have hel : ∀ (hok : Cn.ok (.k n xs)), (xs.getD j []).length = n := fun hok => by
      rw [List.getD_eq_getElem?_getD, List.getElem?_eq_getElem hj]
      exact hok _ (List.getElem_mem hj)
    refine ⟨by simp [Cn.len], rfl, fun hok x hx => ?_, fun φ M j' o' hj' ho' hok => ⟨fun hc u hu => ?_, fun hc => ?_⟩⟩
    · rcases List.mem_or_eq_of_mem_set hx with h1 | rfl
      · exact hok x h1
      · rw [List.length_set]; exact hel hok
    · obtain ⟨rfl, h2, h3⟩ := hc
      simp only [TV.cs, List.length_singleton] at h3 hu
      obtain rfl : o' = o := by omega
      simp only [Cn.cell, getD_set _ _ _ _ _ hj, if_true]
      rw [getD_set _ _ _ _ _ (by rw [hel hok]; exact ho), if_pos rfl]
      exact hu (.b (.val (.int .i64 m))) (by simp)
    · simp only [Cn.cell, getD_set _ _ _ _ _ hj]
      by_cases e : j' = j
      · subst e
        rw [if_pos rfl]
        rw [getD_set _ _ _ _ _ (by rw [hel hok]; exact ho), if_neg fun e => hc ⟨rfl, by omega, by simp [TV.cs]; omega⟩]
      · rw [if_neg e]
  case h_7 n xs ls =>
    split at h
    · rename_i ms hms
      cases e : (Nat.beq ms.length n && Nat.beq o 0) with
      | false => rw [e] at h; cases h
      | true =>
        rw [e] at h
        cases h
        simp only [Bool.and_eq_true] at e
        have e1 := Nat.eq_of_beq_eq_true e.1
        have e2 := Nat.eq_of_beq_eq_true e.2
        subst e2
        have h3 := intsOf_spec hms
        subst h3
        simp only [Cn.len, Cn.w, TV.cs, List.length_map] at hj ho ⊢
        refine ⟨by simp, trivial, fun hok x hx => ?_, fun φ M j' o' hj' ho' hok => ⟨fun hc u hu => ?_, fun hc => ?_⟩⟩
        · rcases List.mem_or_eq_of_mem_set hx with h1 | rfl
          · exact hok x h1
          · exact e1
        · obtain ⟨rfl, h2, h4⟩ := hc
          simp only [Cn.cell, getD_set _ _ _ _ _ hj, if_true]
          have h5 : o' < ms.length := by omega
          have h6 := hu (.b (.val (.int .i64 ms[o']))) (by simp [h5])
          rw [List.getD_eq_getElem?_getD, List.getElem?_eq_getElem h5]
          exact h6
        · simp only [Cn.cell, getD_set _ _ _ _ _ hj]
          rw [if_neg fun e => hc ⟨e, by omega, by omega⟩]
    · cases h
  case h_8 => cases h

section
variable {P : Program} {cf : Cfg} {M0 : Mem} {w0 : World} {N : Nat} {φ : Nat → Value} {M : Mem} {T : Tm} {H : List Ob} {a : Act} {w w' : World}
variable {ops : Array Oper} {o : Oper} {Q : Exit → Act → World → Prop} {rest : List Oper}
/-- a store into an element of an own slice -/
theorem ef_store_row (h : RA P cf M0 w0 N φ M ⟨T, H⟩ a w) (hg : o.guard = none) (hd : o.dst = none) {t : Nat} {x y : Operand} (ho : o.op = .store t x y) (hz : cf.sz t ≠ 0) {i wd j off : Nat} (hx : look T x = (true, .lf (.oa i wd j off))) {e : Nat} {c c' : Cn} (hi : H[i]? = some (.row e c))
    {v : TV} (hy : look T y = (true, .tv v)) (hone : v.cs.all (Lf.oneB H) = true) (hsz : v.cs.length = cf.sz t) (hw : wd = c.w) (hj : j < c.len) (hb : off + v.cs.length ≤ c.w) (hp : c.put j off v = some c')
    (K : ∀ a' w', RA P cf M0 w0 N φ M ⟨T, H.set i (.row e c')⟩ a' w' → wpList P ops Q rest a' w') : wpList P ops Q (o :: rest) a w := by
  subst hw
  have hrx := h.ctx.t x (by rw [hx])
  rw [hx] at hrx
  obtain ⟨g, n, cap, h1, h2⟩ := hrx
  have hry := h.ctx.t y (by rw [hy])
  rw [hy] at hry
  have hcr : LsRel φ M v.cs (a.eval y).cells.toList := tv_cells hry fun z e => by
    subst e
    exact oneB_lit h.hi (List.all_eq_true.1 hone z (by simp [TV.cs])) hry
  have hlit : ∀ u ∈ (a.eval y).cells.toList, litV u = true := fun u hu => by
    obtain ⟨k, hk, rfl⟩ := List.getElem_of_mem hu
    have hk' : k < v.cs.length := by have := hcr.1; omega
    exact oneB_lit h.hi (List.all_eq_true.1 hone _ (List.getElem_mem hk')) (hcr.2 k hk' hk)
  obtain ⟨vs, h3, h4⟩ := h.hi.ob i _ hi
  rw [h1] at h3
  obtain ⟨h3l, h3⟩ := h3
  rcases h3 with ⟨h3, _⟩ | ⟨g', cap', cur, h3, _, h5, h6, h7, h8, h9⟩
  · cases h3
  cases h3
  have hbound : j * c.w + off + v.cs.length ≤ c.len * c.w := by
    have : j * c.w + c.w ≤ c.len * c.w := by rw [← Nat.succ_mul]; exact Nat.mul_le_mul_right _ hj
    omega
  have hcap : c.len * c.w ≤ cap * c.w := Nat.mul_le_mul_right _ h6
  obtain ⟨w', k1, k2, k3⟩ := run_storeAt h.cf (w := w) (off := j * c.w + off) (u := a.eval y) hz h5 (by rw [hcr.1, hsz]) hlit (by rw [← hsz]; omega)
  refine wpList_plain hg fun K' hK => ?_
  unfold Oper.wp
  have hrun : (execOp a.eval o).run P w = .ok .skip w' := by
    simp only [execOp, ho, h2, Sem.run_bind, k1, Result.andThen_ok, Sem.run_pure]
  rw [hrun]
  have hput : a.put o.dst undef = a := by rw [hd]; rfl
  refine hK _ _ ?_
  rw [hput]
  obtain ⟨p1, p2, p3, p4⟩ := put_spec hp hj hb
  have hlv : (splice vs (j * c.w + off) (a.eval y).cells.toList).length = c.len * c.w := by rw [splice_length]; exact h3l
  have hub := hcr.1
  refine K a w' (h.set hi trivial (by rw [h1]; exact k3) ⟨splice vs (j * c.w + off) (a.eval y).cells.toList, ?_, p3 h4.1, ?_⟩ trivial)
  · rw [h1, p1, p2]
    refine ⟨hlv, .inr ⟨g, cap, _, rfl, Nat.zero_le _, k2, h6, h7, ?_, ?_⟩⟩
    · simp only [List.size_toArray, splice_length, Array.length_toList]; exact h8
    · refine List.ext_getElem? fun k => ?_
      rw [List.getElem?_take]
      have e0 : cur.toList.length = cap * c.w := by simpa using h8
      have e1 := splice_get cur.toList (j * c.w + off) (a.eval y).cells.toList (by rw [e0]; omega) k
      have e2 := splice_get vs (j * c.w + off) (a.eval y).cells.toList (by rw [hub, h3l]; omega) k
      by_cases hk : k < c.len * c.w
      · rw [if_pos hk, e1, e2]
        have : vs[k]? = cur.toList[k]? := by rw [← h9, List.getElem?_take, if_pos hk]
        rw [this]
      · rw [if_neg hk, List.getElem?_eq_none (by omega)]
  · rw [p1, p2]
    refine ⟨hlv, fun j' o' hj' ho' => ?_⟩
    have e2 := splice_get vs (j * c.w + off) (a.eval y).cells.toList (by rw [hub, h3l]; omega) (j' * c.w + o')
    obtain ⟨q1, q2⟩ := p4 φ M j' o' hj' ho' h4.1
    have hiff : (j * c.w + off ≤ j' * c.w + o' ∧ j' * c.w + o' < j * c.w + off + (a.eval y).cells.toList.length) ↔ (j' = j ∧ off ≤ o' ∧ o' < off + v.cs.length) := by
      rw [hub]
      constructor
      · intro ⟨r1, r2⟩
        have hjj : j' = j := by
          rcases Nat.lt_trichotomy j' j with hlt | rfl | hlt
          · have : j' * c.w + c.w ≤ j * c.w := by rw [← Nat.succ_mul]; exact Nat.mul_le_mul_right _ hlt
            omega
          · rfl
          · have : j * c.w + c.w ≤ j' * c.w := by rw [← Nat.succ_mul]; exact Nat.mul_le_mul_right _ hlt
            omega
        subst hjj
        exact ⟨rfl, by omega, by omega⟩
      · rintro ⟨rfl, r1, r2⟩
        omega
    by_cases hc : j' = j ∧ off ≤ o' ∧ o' < off + v.cs.length
    · rw [if_pos (hiff.2 hc)] at e2
      obtain ⟨rfl, r1, r2⟩ := hc
      have hk : o' - off < (a.eval y).cells.toList.length := by omega
      rw [show j' * c.w + o' - (j' * c.w + off) = o' - off by omega, List.getElem?_eq_getElem hk] at e2
      refine ⟨_, e2, q1 ⟨rfl, r1, r2⟩ _ fun x hx => ?_⟩
      obtain ⟨hx1, hx2⟩ := List.getElem?_eq_some_iff.1 hx
      rw [← hx2]
      exact hcr.2 _ _ _
    · rw [if_neg (fun r => hc (hiff.1 r))] at e2
      obtain ⟨u, e3, e4⟩ := h4.2.2 j' o' hj' ho'
      exact ⟨u, e2.trans e3, by show B.rel M (c'.cell j' o') u; rw [q2 hc]; exact e4⟩
end
end Am
end Go.Proofs.Ytoaecbdpkmeenaa
