/- append, make, literals, and a slice that is given away. Conditions: those that each names. -/
import Derived.Test.YtoaecbdpkmeenaaAm7
namespace Go.Proofs.Ytoaecbdpkmeenaa
namespace Am
open Go Go.RowKit

/-! ### a name that stands for nothing any more -/
def Lf.kill (i : Nat) : Lf → Lf
  | .own j => bif Nat.beq j i then .und else .own j
  | .ptr j o => bif Nat.beq j i then .und else .ptr j o
  | .oa j w k o => bif Nat.beq j i then .und else .oa j w k o
  | x => x
def TV.map (f : Lf → Lf) : TV → TV
  | .one x => .one (f x)
  | .agg xs => .agg (xs.map f)
def AV.map (f : Lf → Lf) : AV → AV
  | .tv x => .tv (x.map f)
  | .clo g xs => .clo g (xs.map f)
  | .tup xs => .tup (xs.map (TV.map f))
def Tm.map (f : Lf → Lf) (T : Tm) : Tm := fun t => ((T t).1, (T t).2.map f)
def Ob.map (f : Lf → Lf) : Ob → Ob
  | .box cs => .box (cs.map f)
  | x => x
theorem map_tab (f : Lf → Lf) (hf : f .und = .und) : ∀ L : List (Nat × Bool × AV), (tab L).map f = tab (L.map fun p => (p.1, p.2.1, p.2.2.map f))
  | [] => by funext t; simp [Tm.map, tab, AV.map, TV.map, hf]
  | (s, v) :: L => by
    have ih := map_tab f hf L
    funext t
    have := congrFun ih t
    simp only [Tm.map, tab, List.map_cons] at this ⊢
    cases Nat.beq t s
    · simpa using this
    · rfl
theorem AV.map_rel {φ φ' : Nat → Value} {M M' : Mem} {f : Lf → Lf} {x : AV} {u : Value} (h : x.rel φ M u) (k : ∀ y ∈ x.leaves, ∀ u, y.rel φ M u → (f y).rel φ' M' u) : (x.map f).rel φ' M' u := by
  have hL : ∀ (xs : List Lf) (us : List Value), (∀ y ∈ xs, ∀ u, y.rel φ M u → (f y).rel φ' M' u) → LsRel φ M xs us → LsRel φ' M' (xs.map f) us := fun xs us hk hx =>
    ⟨by rw [List.length_map]; exact hx.1, fun j hj hj' => by
      rw [List.getElem_map]
      exact hk _ (List.getElem_mem _) _ (hx.2 j (by simpa using hj) hj')⟩
  have hT : ∀ (x : TV) (u : Value), (∀ y ∈ x.leaves, ∀ u, y.rel φ M u → (f y).rel φ' M' u) → x.rel φ M u → (x.map f).rel φ' M' u := fun x u hk hx => by
    cases x with
    | one x => exact hk x (by simp [TV.leaves]) u hx
    | agg xs =>
      obtain ⟨us, e, h1⟩ := hx
      exact ⟨us, e, hL xs us hk h1⟩
  cases x with
  | tv x => exact hT x u k h
  | clo g xs =>
    obtain ⟨us, e, h1⟩ := h
    exact ⟨us, e, hL xs us k h1⟩
  | tup xs =>
    obtain ⟨us, e, h1, h2⟩ := h
    refine ⟨us, e, by simp [h1], fun j hj hj' => ?_⟩
    rw [List.getElem_map]
    exact hT _ _ (fun y hy => k y (by simp only [AV.leaves, List.mem_flatMap]; exact ⟨_, List.getElem_mem _, hy⟩)) (h2 j (by simpa using hj) hj')
theorem AV.map_lt {f : Lf → Lf} {x : AV} {n : Nat} (h : x.lt n) (k : ∀ y : Lf, y.ltB n = true → (f y).ltB n = true) : (x.map f).lt n := by
  have hT : ∀ (x : TV), (∀ y ∈ x.leaves, y.ltB n = true) → ∀ y ∈ (x.map f).leaves, y.ltB n = true := fun x hx y hy => by
    cases x with
    | one x => simp only [TV.map, TV.leaves, List.mem_singleton] at hy; subst hy; exact k _ (hx x (by simp [TV.leaves]))
    | agg xs => simp only [TV.map, TV.leaves, List.mem_map] at hy; obtain ⟨z, hz, rfl⟩ := hy; exact k _ (hx z hz)
  cases x with
  | tv x => exact hT x h
  | clo g xs =>
    intro y hy
    simp only [AV.map, AV.leaves, List.mem_map] at hy
    obtain ⟨z, hz, rfl⟩ := hy
    exact k _ (h z hz)
  | tup xs =>
    intro y hy
    simp only [AV.map, AV.leaves, List.mem_flatMap, List.mem_map] at hy
    obtain ⟨_, ⟨z, hz, rfl⟩, hy⟩ := hy
    exact hT z (fun y' hy' => h y' (by simp only [AV.leaves, List.mem_flatMap]; exact ⟨z, hz, hy'⟩)) y hy
theorem kill_rel {φ : Nat → Value} {M : Mem} {i : Nat} {v u : Value} {x : Lf} (h : x.rel φ M u) : (x.kill i).rel (upd φ i v) M u := by
  cases x with
  | und => trivial
  | b x => exact h
  | ea c j o => exact h
  | ip xs o => exact h
  | own j =>
    simp only [Lf.kill]
    cases e : Nat.beq j i with
    | true => trivial
    | false => exact h.trans (upd_ne φ v (fun k => by rw [k, Nat.beq_refl] at e; cases e)).symm
  | ptr j o =>
    simp only [Lf.kill]
    cases e : Nat.beq j i with
    | true => trivial
    | false =>
      obtain ⟨g, h1, h2⟩ := h
      exact ⟨g, (upd_ne φ v (fun k => by rw [k, Nat.beq_refl] at e; cases e)).trans h1, h2⟩
  | oa j w k o =>
    simp only [Lf.kill]
    cases e : Nat.beq j i with
    | true => trivial
    | false =>
      obtain ⟨g, n, cap, h1, h2⟩ := h
      exact ⟨g, n, cap, (upd_ne φ v (fun k => by rw [k, Nat.beq_refl] at e; cases e)).trans h1, h2⟩
theorem kill_lt {i n : Nat} {x : Lf} (h : x.ltB n = true) : (x.kill i).ltB n = true := by
  cases x <;> simp only [Lf.kill] <;> first | exact h | (split <;> first | rfl | exact h) | (cases Nat.beq _ i <;> first | rfl | exact h)
def killAt (i : Nat) (X : St) (o : Ob) : St := ⟨X.T.map (Lf.kill i), (X.H.map (Ob.map (Lf.kill i))).set i o⟩

section
variable {P : Program} {cf : Cfg} {M0 : Mem} {w0 : World} {N : Nat} {φ : Nat → Value} {M : Mem} {T : Tm} {H : List Ob} {a : Act} {w w' : World}
variable {ops : Array Oper} {o : Oper} {Q : Exit → Act → World → Prop} {rest : List Oper}
theorem Ob.map_rel {φ' : Nat → Value} {M' : Mem} {f : Lf → Lf} {ob : Ob} {u : Value} (hm : M.le M') (h : ob.rel φ M w u) (k : ∀ y : Lf, ∀ u, y.rel φ M u → (f y).rel φ' M' u) : (ob.map f).rel φ' M' w u := by
  cases ob with
  | gone => trivial
  | box cs =>
    obtain ⟨g, arr, t, h1, h2, h3, h4⟩ := h
    exact ⟨g, arr, t, h1, h2, by simp [h3], fun j hj hj' => by rw [List.getElem_map]; exact k _ _ (h4 j (by simpa using hj) hj')⟩
  | row e c =>
    obtain ⟨vs, h1, h2⟩ := h
    exact ⟨vs, h1, Cn.rel_mono hm h2⟩
theorem Ob.map_live {f : Lf → Lf} {ob : Ob} : (ob.map f).live ↔ ob.live := by cases ob <;> exact Iff.rfl
/-- an own slice has turned and has a new value -/
theorem RA.turn (h : RA P cf M0 w0 N φ M ⟨T, H⟩ a w) {i : Nat} {ob o' : Ob} {v : Value} (hi : H[i]? = some ob) (hl : ob.live) (hw : w.grownBy w' (blk (φ i))) (hv : ∀ g, blk v = some g → blk (φ i) = some g ∨ w.heap.size ≤ g) (ho : o'.rel (upd φ i v) M w' v) (hlt : o'.lt H.length) :
    RA P cf M0 w0 N (upd φ i v) M (killAt i ⟨T, H⟩ o') a w' := by
  have hil : i < H.length := (List.getElem?_eq_some_iff.1 hi).1
  have hlen : (killAt i ⟨T, H⟩ o').H.length = H.length := by simp [killAt]
  have hcase : ∀ (j : Nat) (p : Ob), (killAt i ⟨T, H⟩ o').H[j]? = some p → (j ≠ i ∧ ∃ q, H[j]? = some q ∧ p = q.map (Lf.kill i) ∧ upd φ i v j = φ j) ∨ (j = i ∧ p = o' ∧ upd φ i v j = v) := fun j p hj => by
    simp only [killAt, List.getElem?_set] at hj
    split at hj
    · rename_i e
      subst e
      simp [hil] at hj
      exact .inr ⟨rfl, hj.symm, upd_same φ _ v⟩
    · rename_i e
      rw [List.getElem?_map] at hj
      simp only [Option.map_eq_some_iff] at hj
      obtain ⟨q, h1, h2⟩ := hj
      exact .inl ⟨fun k => e k.symm, q, h1, h2.symm, upd_ne φ v fun k => e k.symm⟩
  refine ⟨h.cf, h.le, h.new, ⟨fun ad u e => ?_, fun j p hj => ?_, fun j p g hj hp hg ad u e => ?_, fun j k p q g hj hp hk hq hg hg' => ?_, fun j p hj => ?_⟩, fun t => ⟨fun ht => AV.map_rel ((h.t t).1 ht) fun y _ u hu => kill_rel hu, (h.t t).2⟩, fun t => ?_, fun j p g hj hp hg => ?_, h.size, ?_, h.defers⟩
  · have h1 := h.hi.mem ad u e
    rw [World.cell?_of_block (hw.block ad.block (mem_lt h.hi e) fun e2 => h.hi.off i ob ad.block hi hl e2.symm ad u e rfl)]
    exact h1
  · rcases hcase j p hj with ⟨hne, q, h1, rfl, h2⟩ | ⟨rfl, rfl, h2⟩
    · rw [h2]
      have hob := h.hi.ob j q h1
      refine Ob.map_rel (Mem.le_refl _) (φ := φ) ?_ fun y u hu => kill_rel hu
      by_cases hp : q.live
      · exact Ob.rel_keep hob fun g hg => hw.block g (Ob.blk_lt hob hp hg) fun e => hne (h.hi.inj j i q ob g h1 hp hi hl hg e.symm)
      · cases q <;> first | trivial | exact (hp trivial).elim
    · rw [h2]
      exact ho
  · have hlt2 := mem_lt h.hi e
    rcases hcase j p hj with ⟨hne, q, h1, rfl, h2⟩ | ⟨rfl, rfl, h2⟩
    · rw [h2] at hg
      exact h.hi.off j q g h1 (Ob.map_live.1 hp) hg ad u e
    · rw [h2] at hg
      rcases hv g hg with h3 | h3
      · exact h.hi.off j ob g hi hl h3 ad u e
      · omega
  · rcases hcase j p hj with ⟨hne, q1, h1, rfl, h2⟩ | ⟨rfl, rfl, h2⟩ <;> rcases hcase k q hk with ⟨kne, q2, k1, rfl, k2⟩ | ⟨rfl, rfl, k2⟩
    · rw [h2] at hg
      rw [k2] at hg'
      exact h.hi.inj j k q1 q2 g h1 (Ob.map_live.1 hp) k1 (Ob.map_live.1 hq) hg hg'
    · rw [h2] at hg
      rw [k2] at hg'
      rcases hv g hg' with h3 | h3
      · exact h.hi.inj j k q1 ob g h1 (Ob.map_live.1 hp) hi hl hg h3
      · have := Ob.blk_lt (h.hi.ob j q1 h1) (Ob.map_live.1 hp) hg
        omega
    · rw [h2] at hg
      rw [k2] at hg'
      rcases hv g hg with h3 | h3
      · exact (h.hi.inj k j q2 ob g k1 (Ob.map_live.1 hq) hi hl hg' h3).symm
      · have := Ob.blk_lt (h.hi.ob k q2 k1) (Ob.map_live.1 hq) hg'
        omega
    · rfl
  · rw [hlen]
    rcases hcase j p hj with ⟨hne, q, h1, rfl, h2⟩ | ⟨rfl, rfl, h2⟩
    · have := h.hi.wf j q h1
      cases q with
      | box cs =>
        intro y hy
        simp only [List.mem_map] at hy
        obtain ⟨z, hz, rfl⟩ := hy
        exact kill_lt (this z hz)
      | _ => trivial
    · exact hlt
  · rw [hlen]
    exact AV.map_lt (h.lt t) fun y hy => kill_lt hy
  · rcases hcase j p hj with ⟨hne, q, h1, rfl, h2⟩ | ⟨rfl, rfl, h2⟩
    · rw [h2] at hg
      exact h.own j q g h1 (Ob.map_live.1 hp) hg
    · rw [h2] at hg
      rcases hv g hg with h3 | h3
      · exact h.own j ob g hi hl h3
      · exact Nat.le_trans h.below.size h3
  · refine ⟨hw.os.trans h.below.os, hw.tape.trans h.below.tape, hw.output.trans h.below.output, Nat.le_trans h.below.size hw.size, fun k hk => ?_⟩
    rw [hw.block k (Nat.lt_of_lt_of_le hk h.below.size) fun e => by have := h.own i ob k hi hl e.symm; omega]
    exact h.below.block k hk

theorem blk_own {u : Value} {e size n : Nat} {vs : List Value} (h : w.ownsRow 0 e size u n vs) : u.ownBlock = blk u := by
  rcases h.2 with ⟨rfl, _⟩ | ⟨g, cap, cur, rfl, _⟩ <;> rfl
theorem lit_cells {c : Cn} {vs : List Value} (h : c.rel M vs) : ∀ u ∈ vs, litV u = true := fun u hu => by
  obtain ⟨k, hk, rfl⟩ := List.getElem_of_mem hu
  have hl := h.2.1
  have hw : 0 < c.w := by
    rcases Nat.eq_zero_or_pos c.w with e | e
    · rw [e, Nat.mul_zero] at hl; omega
    · exact e
  have hj : k / c.w < c.len := (Nat.div_lt_iff_lt_mul hw).2 (by omega)
  obtain ⟨u, h1, h2⟩ := h.2.2 (k / c.w) (k % c.w) hj (Nat.mod_lt _ hw)
  rw [show k / c.w * c.w + k % c.w = k by rw [Nat.mul_comm]; exact Nat.div_add_mod k c.w, List.getElem?_eq_getElem hk] at h1
  cases h1
  generalize hb : c.cell (k / c.w) (k % c.w) = b at h2
  cases b with
  | sl c2 => obtain ⟨_, ⟨A, cap, e, _⟩, _⟩ := B.rel_sl.1 h2; rw [e]; rfl
  | val v =>
    rw [show vs[k] = v from h2]
    cases c <;> simp [Cn.cell] at hb <;> subst hb <;> rfl
/-- the content of a slice that is only read -/
def content (H : List Ob) : AV → Option Cn
  | .tv (.one (.b (.sl c))) => some c
  | .tv (.one (.own i)) => match H[i]? with
    | some (.row _ c) => some c
    | _ => none
  | _ => none
theorem content_rel (hH : HI φ M H w) {v : AV} {u : Value} {c : Cn} (hv : v.rel φ M u) (hc : content H v = some c) (h0 : 0 < c.len) (hw0 : 0 < c.w) : ∃ ad cap vs, u = .slice (some ad) c.len cap ∧ c.rel M vs ∧ ∀ j x, vs[j]? = some x → w.cell? (ad.add j) = some x := by
  unfold content at hc
  split at hc
  · cases hc
    obtain ⟨vs, ⟨A, cap, e, k1, k2, k3⟩, k4⟩ := B.rel_sl.1 hv
    obtain ⟨u0, e4, -⟩ := k4.2.2 0 0 h0 hw0
    obtain ⟨ad, rfl, -⟩ := k3 (by rintro rfl; simp at e4)
    exact ⟨ad, cap, vs, e, k4, fun j x hx => hH.mem _ _ (k3.at_ hx)⟩
  · rename_i i
    split at hc
    · rename_i e c' hi
      cases hc
      obtain ⟨vs, k1, k2⟩ := hH.ob i _ hi
      rw [show u = φ i from hv]
      rcases k1.2 with ⟨_, k3⟩ | ⟨g, cap, cur, k3, _⟩
      · omega
      · rw [k3] at k1
        exact ⟨_, cap, vs, k3, k2, fun j x hx => by rw [lit_add, Nat.zero_add]; exact own_cell k1 hx⟩
    · cases hc
  · cases hc
theorem ef_app (h : RA P cf M0 w0 N φ M ⟨T, H⟩ a w) (hg : o.guard = none) (hd : o.dst.all (Nat.blt · N) = true) {t e : Nat} {x y : Operand} (ho : o.op = .call { callee := .builtin .append, args := #[x, y], argTypes := #[t, t] }) (ht : cf.ty t = .slice e) (hz : cf.sz e ≠ 0) {i : Nat} {c c2 c' : Cn}
    (hx : look T x = (true, .lf (.own i))) (hi : H[i]? = some (.row e c)) {v : AV} (hy : look T y = (true, v)) (hc : content H v = some c2) (hw : c.w = cf.sz e) (h0 : 0 < c2.len) (hap : c.app c2 = some c') (hn : c.len + c2.len ≤ 1073741824) (hby : cf.bytes e ≤ 4096)
    (K : ∀ φ' a' w', RA P cf M0 w0 N φ' M ⟨(T.map (Lf.kill i)).put o.dst (true, .lf (.own i)), (H.map (Ob.map (Lf.kill i))).set i (.row e c')⟩ a' w' → wpList P ops Q rest a' w') : wpList P ops Q (o :: rest) a w := by
  obtain ⟨inf, hinf, hsz, hbt, z, hz1, hz2, hz3⟩ := h.cf.info e hz
  have hty := h.cf.ty t
  rw [ht] at hty
  have hrx : a.eval x = φ i := by have := h.ctx.t x (by rw [hx]); rw [hx] at this; exact this
  have hry := h.ctx.t y (by rw [hy])
  rw [hy] at hry
  obtain ⟨vs, k1, k2⟩ := h.hi.ob i _ hi
  obtain ⟨e1, e2, e3, -, -⟩ := app_spec hap
  obtain ⟨ad, cap, vs2, q1, q2, q3⟩ := content_rel h.hi hry hc h0 (by rw [e3, hw]; omega)
  have hzl : z.cells.size = c.w := by rw [hz3, hw]
  refine wpList_append_own_at w hg x y t ho 0 e inf z c.w (cf.bytes e) hty hinf hz1 (by rw [hsz, hw]) hbt hzl (by rw [hw]; omega) (φ i) c.len vs hrx k1 ad c2.len cap vs2 q1 (by rw [q2.2.1, e3]) q3 (fun u hu => by have := lit_cells q2 u hu; cases u <;> first | rfl | exact this) (by simp only [maxLen]; omega) ?_ (Nat.zero_le _) ?_
  · have : (c.len + c2.len) * cf.bytes e ≤ 1073741824 * 4096 := Nat.mul_le_mul hn hby
    omega
  · intro v' w' r1 r2 _ r4
    have hb1 := blk_own k1
    have hb2 := blk_own r1
    have hR := h.turn (v := v') (o' := .row e c') hi trivial (by rw [← hb1]; exact r2) (fun g hg' => by
      rw [← hb2] at hg'
      rw [← hb1]
      rcases r4 with r4 | r4
      · exact .inl (by rw [← r4]; exact hg')
      · rw [r4] at hg'; cases hg'; exact .inr (Nat.le_refl _)) ⟨vs ++ vs2, by rw [e2, e1]; exact r1, app_rel hap k2 q2⟩ trivial
    refine K _ _ _ (hR.put (d := o.dst) hd (Mem.le_refl _) hR.new hR.hi hR.below ⟨fun _ => (upd_same _ _ _).symm, fun hf => by cases hf⟩ (AV.lt_one.2 ?_))
    have hil : i < H.length := (List.getElem?_eq_some_iff.1 hi).1
    simp [Lf.ltB, killAt, hil]
theorem below_grown (hw : w.grownBy w' none) : Below w.heap.size w w' := ⟨hw.os, hw.tape, hw.output, hw.size, fun k hk => hw.block k hk (by simp)⟩
/-- append to nil -/
theorem ef_app_nil (h : RA P cf M0 w0 N φ M ⟨T, H⟩ a w) (hg : o.guard = none) (hd : o.dst.all (Nat.blt · N) = true) {t e : Nat} {x y : Operand} (ho : o.op = .call { callee := .builtin .append, args := #[x, y], argTypes := #[t, t] }) (ht : cf.ty t = .slice e) (hz : cf.sz e ≠ 0) {c2 : Cn}
    (hx : look T x = (true, .val (.slice none 0 0))) {v : AV} (hy : look T y = (true, v)) (hc : content H v = some c2) (hw : c2.w = cf.sz e) (h0 : 0 < c2.len) (hn : c2.len ≤ 1073741824) (hby : cf.bytes e ≤ 4096)
    (K : ∀ φ' a' w', RA P cf M0 w0 N φ' M ⟨T.put o.dst (true, .lf (.own H.length)), H ++ [.row e c2]⟩ a' w' → wpList P ops Q rest a' w') : wpList P ops Q (o :: rest) a w := by
  obtain ⟨inf, hinf, hsz, hbt, z, hz1, hz2, hz3⟩ := h.cf.info e hz
  have hty := h.cf.ty t
  rw [ht] at hty
  have hrx : a.eval x = .slice none 0 0 := by have := h.ctx.t x (by rw [hx]); rw [hx] at this; exact this
  have hry := h.ctx.t y (by rw [hy])
  rw [hy] at hry
  obtain ⟨ad, cap, vs2, q1, q2, q3⟩ := content_rel h.hi hry hc h0 (by rw [hw]; omega)
  refine wpList_append_own_at w hg x y t ho 0 e inf z c2.w (cf.bytes e) hty hinf hz1 (by rw [hsz, hw]) hbt (by rw [hz3, hw]) (by rw [hw]; omega) (.slice none 0 0) 0 [] hrx (World.ownsRow_nil _ _ _ _) ad c2.len cap vs2 q1 q2.2.1 q3 (fun u hu => by have := lit_cells q2 u hu; cases u <;> first | rfl | exact this) (by simp only [maxLen]; omega) ?_ (Nat.zero_le _) ?_
  · have : (0 + c2.len) * cf.bytes e ≤ 1073741824 * 4096 := Nat.mul_le_mul (by omega) hby
    omega
  · intro v' w' r1 r2 _ r4
    rw [Nat.zero_add, List.nil_append] at r1
    have hb2 := blk_own r1
    have hR := h.grow (v := v') (o := .row e c2) (below_grown r2) (fun g hg' => by
      rw [← hb2] at hg'
      rcases r4 with r4 | r4
      · rw [r4] at hg'; cases hg'
      · rw [r4] at hg'; cases hg'; exact Nat.le_refl _) ⟨vs2, r1, q2⟩ trivial
    exact K _ _ _ (hR.put (d := o.dst) hd (Mem.le_refl _) hR.new hR.hi hR.below ⟨fun _ => (upd_same _ _ _).symm, fun hf => by cases hf⟩ (AV.lt_one.2 (by simp [Lf.ltB])))
/-- so many zero values -/
def zeros (cf : Cfg) (e n : Nat) : Option Cn := match emp cf e with
  | some (.ints _) => some (.ints (List.replicate n 0))
  | some (.ii _) => some (.ii (List.replicate n []))
  | some (.iii _) => some (.iii (List.replicate n []))
  | some (.k m _) => some (.k m (List.replicate n (List.replicate m 0)))
  | some (.ki m _) => some (.ki m (List.replicate n []))
  | some (.kii m _) => some (.kii m (List.replicate n []))
  | none => none
/-- the zero value's cells, as they are for such contents -/
def zerosV : Cn → List Value
  | .ints _ => [.int .i64 0]
  | .k m _ => List.replicate m (.int .i64 0)
  | _ => [.slice none 0 0]
theorem nil_rel {M : Mem} {c : Cn} (h0 : c.len = 0) (hok : c.ok) : (B.sl c).rel M (.slice none 0 0) :=
  B.rel_sl.2 ⟨[], ⟨none, 0, by rw [h0], by omega, by omega, fun hn => (hn rfl).elim⟩, hok, by rw [h0, Nat.zero_mul]; rfl, fun j o hj => by omega⟩
theorem rep_getD {α : Type} {n j : Nat} {x d : α} (h : j < n) : (List.replicate n x).getD j d = x := by
  rw [List.getD_eq_getElem?_getD, List.getElem?_replicate, if_pos h]; rfl
theorem zeros_rel {e n : Nat} {c : Cn} (hc : zeros cf e n = some c) {vs : List Value} (hl : vs.length = n * c.w) (hv : ∀ j o, j < n → o < c.w → vs[j * c.w + o]? = (zerosV c)[o]?) : c.rel M vs ∧ c.len = n := by
  unfold zeros at hc
  split at hc <;> first | (cases hc; done) | skip
  all_goals
    cases hc
    refine ⟨⟨?_, by simpa [Cn.len] using hl, fun j o hj ho => ?_⟩, by simp [Cn.len]⟩
  all_goals first
    | trivial
    | (intro x hx; rw [List.eq_of_mem_replicate hx]; simp; done)
    | (simp only [Cn.len, List.length_replicate] at hj
       simp only [Cn.w] at ho hv ⊢
       refine ⟨.int .i64 0, by rw [hv j o hj ho]; simp [zerosV, ho], ?_⟩
       show _ = _
       rw [rep_getD hj, rep_getD ho]
       done)
    | (simp only [Cn.len, List.length_replicate] at hj
       simp only [Cn.w] at ho hv ⊢
       refine ⟨.int .i64 0, by rw [hv j o hj ho, show o = 0 by omega]; rfl, ?_⟩
       show _ = _
       rw [rep_getD hj]
       done)
    | (simp only [Cn.len, List.length_replicate] at hj
       simp only [Cn.w] at ho hv ⊢
       refine ⟨.slice none 0 0, by rw [hv j o hj ho, show o = 0 by omega]; rfl, ?_⟩
       simp only [Cn.cell]
       rw [rep_getD hj]
       exact nil_rel rfl (by simp [Cn.ok]))
theorem ef_make (h : RA P cf M0 w0 N φ M ⟨T, H⟩ a w) (hg : o.guard = none) (hd : o.dst.all (Nat.blt · N) = true) {t e : Nat} {x y : Operand} (ho : o.op = .makeSlice t x y) (ht : cf.ty t = .slice e) (hz : cf.sz e ≠ 0) {m : Int} {c : Cn}
    (hx : look T x = (true, .int m)) (hy : look T y = (true, .int m)) (hm0 : 0 ≤ m) (hm1 : m ≤ 1073741824) (hc : zeros cf e m.toNat = some c) (hw : c.w = cf.sz e) (hzv : cf.zero e = zerosV c) (hby : cf.bytes e ≤ 4096)
    (K : ∀ φ' a' w', RA P cf M0 w0 N φ' M ⟨T.put o.dst (true, .lf (.own H.length)), H ++ [.row e c]⟩ a' w' → wpList P ops Q rest a' w') : wpList P ops Q (o :: rest) a w := by
  obtain ⟨inf, hinf, hsz, hbt, z, hz1, hz2, hz3⟩ := h.cf.info e hz
  have hty := h.cf.ty t
  rw [ht] at hty
  obtain ⟨n, rfl⟩ := Int.eq_ofNat_of_zero_le hm0
  rw [Int.toNat_natCast] at hc
  have hrx : a.eval x = .int .i64 n := by have := h.ctx.t x (by rw [hx]); rw [hx] at this; exact this
  have hry : a.eval y = .int .i64 n := by have := h.ctx.t y (by rw [hy]); rw [hy] at this; exact this
  refine wpList_make_full w hg x y t ho 0 e inf z c.w hty hinf hz1 (by rw [hsz, hw]) .i64 .i64 n n n hrx hry rfl rfl ?_ (by simp only [maxLen]; omega) (Nat.zero_le _) ?_
  · rw [hbt]
    have : cf.bytes e * n ≤ 4096 * 1073741824 := Nat.mul_le_mul hby (by omega)
    omega
  · intro w' r1 r2
    have hcw : 0 < c.w := by rw [hw]; omega
    obtain ⟨s1, s2⟩ := zeros_rel (M := M) hc (vs := (madeCells z.cells (n * c.w)).toList) (by simp [size_madeCells]) fun j o hj ho => by
      have hlt : j * c.w + o < n * c.w := by
        have : j * c.w + c.w ≤ n * c.w := by rw [← Nat.succ_mul]; exact Nat.mul_le_mul_right _ hj
        omega
      have hmod : (j * c.w + o) % z.cells.size = o := by
        rw [hz3, ← hw, Nat.mul_comm, Nat.mul_add_mod]
        exact Nat.mod_eq_of_lt ho
      have ho2 : o < z.cells.size := by rw [hz3, ← hw]; exact ho
      rw [← hzv, ← hz2]
      simp only [madeCells, Array.toList_map, Array.toList_range, List.getElem?_map, List.getElem?_range hlt, Option.map_some, hmod]
      simp [ho2]
    have hR := h.grow (v := .slice (some ⟨w.heap.size, 0, none⟩) n n) (o := .row e c) (below_grown r2) (fun g hg' => by simp [blk] at hg'; omega) ⟨_, by rw [s2]; exact r1, s1⟩ trivial
    exact K _ _ _ (hR.put (d := o.dst) hd (Mem.le_refl _) hR.new hR.hi hR.below ⟨fun _ => (upd_same _ _ _).symm, fun hf => by cases hf⟩ (AV.lt_one.2 (by simp [Lf.ltB])))
end
end Am
end Go.Proofs.Ytoaecbdpkmeenaa
