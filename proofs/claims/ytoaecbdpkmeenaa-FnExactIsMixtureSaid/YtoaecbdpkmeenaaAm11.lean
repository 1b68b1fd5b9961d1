/- Regions and functions on the abstract machine: what holds there holds of the program. Conditions: those that each names. -/
import Derived.Test.YtoaecbdpkmeenaaAm10
namespace Go.Proofs.Ytoaecbdpkmeenaa
namespace Am
open Go Go.RowKit

section
variable {P : Program} {cf : Cfg} {M0 : Mem} {w0 : World} {N : Nat} {φ : Nat → Value} {M : Mem} {T : Tm} {H : List Ob} {a : Act} {w w' : World}
variable {ops : Array Oper} {o : Oper} {Q : Exit → Act → World → Prop} {rest : List Oper}
theorem cells_oneB {v : TV} (h : v.oneB H = true) : cellsOf (.tv v) = some v.cs ∧ ownsB H (.tv v) = true := by
  cases v with
  | agg xs => exact ⟨rfl, rfl⟩
  | one x =>
    simp only [TV.oneB, TV.cs, List.all_cons, List.all_nil, Bool.and_true] at h
    cases x with
    | b x =>
      cases x with
      | val v =>
        have h' : litV v = true := h
        exact ⟨by simp [cellsOf, h', TV.cs], rfl⟩
      | sl c => exact ⟨rfl, rfl⟩
    | own i =>
      refine ⟨rfl, ?_⟩
      simp only [Lf.oneB] at h
      simp only [ownsB]
      exact h
    | ptr i o => exact ⟨rfl, rfl⟩
    | ip xs o => exact ⟨rfl, rfl⟩
    | _ => cases h
theorem flat_rel {M M' : Mem} {c : Cn} {vs : List Value} (hf : c.flat = true) (h : c.rel M vs) : c.rel M' vs := by
  refine ⟨h.1, h.2.mono fun j o u hu => ?_⟩
  cases c <;> simp [Cn.flat] at hf <;> exact hu
/-- a call that hands back a slice of the caller's own -/
theorem ef_call (h : RA P cf M0 w0 N φ M ⟨T, H⟩ a w) (hg : o.guard = none) (hd : o.dst.all (Nat.blt · N) = true) {c : Call} (ho : o.op = .call c) {e : Nat} {d : Cn} (hc : callOwn P H T c e d)
    (K : ∀ φ' M' a' w', RA P cf M0 w0 N φ' M' ⟨T.put o.dst (true, .lf (.own H.length)), H ++ [.row e d]⟩ a' w' → wpList P ops Q rest a' w') : wpList P ops Q (o :: rest) a w := by
  obtain ⟨f, xs, vs, h1, h3, h4, hspec, h6⟩ := hc
  simp only [calleeOf] at h1
  split at h1
  · rename_i x hcx
    split at h1
    · rename_i gc' f' xs' hx
      cases h1
      have hρ := h.ctx.t x (by rw [hx])
      rw [hx] at hρ
      obtain ⟨us, hus, hl, hcap⟩ := hρ
      have hex := exec_call (P := P) (w := w) ho hcx hus hspec.1
      simp only [argsOf, Option.bind_eq_some_iff, Option.map_eq_some_iff] at h4
      obtain ⟨vs1, h7, ys, h8, rfl⟩ := h4
      refine wpList_plain hg fun K' hK => ?_
      unfold Oper.wp
      rw [hex]
      simp only [Oper.upon]
      rcases h6 with hval | ⟨hfa, hfx⟩
      · have hAR : ArgsRel w.cell? (vs1 ++ ys.map fun y => .tv (.one y)) (c.args.toList.map a.eval ++ us) :=
          argsRel_of h7 h8 (fun x y hx hy => viewA_rel h.hi hy (h.ctx.t x (h3 x hx))) hl (fun j hj hj' y hy => view_rel h.hi hy (hcap j hj hj'))
        refine (hspec.2 w.cell? w _ (fun _ _ e => e) hAR).mono ?_
        rintro e' w' ⟨u, M', rfl, -, -, ⟨ws, r1, r2, r3⟩, hb⟩
        have hown : w'.ownsRow 0 e d.w u d.len ws := by
          refine ⟨r1.1, ?_⟩
          rcases r1.2 with r | ⟨g, cap, cur, e1, -, r⟩
          · exact .inl r
          · exact .inr ⟨g, cap, cur, e1, Nat.zero_le _, r⟩
        have hR := h.grow hb (v := u) (o := .row e d) (fun g hg' => by
          rcases r1.2 with ⟨r, _⟩ | ⟨g', cap, cur, e1, r, _⟩
          · rw [r] at hg'; cases hg'
          · rw [e1] at hg'; simp only [blk, Option.some.injEq] at hg'; omega) ⟨ws, hown, flat_rel hval r2⟩ trivial
        exact hK _ _ (K _ _ _ _ (hR.put (d := o.dst) hd (Mem.le_refl _) hR.new hR.hi hR.below ⟨fun _ => (upd_same _ _ _).symm, fun hf => by cases hf⟩ (AV.lt_one.2 (by simp [Lf.ltB]))))
      · have hAR : ArgsRel M (vs1 ++ ys.map fun y => .tv (.one y)) (c.args.toList.map a.eval ++ us) :=
          argsRel_of h7 h8 (fun x y hx hy => by rw [viewA_free (hfa x hx) hy]; exact free_rel (hfa x hx) (h.ctx.t x (h3 x hx))) hl
            (fun j hj hj' y hy => by rw [view_free (hfx _ (List.getElem_mem hj)) hy]; exact Lf.rel_phi (hfx _ (List.getElem_mem hj)) (fun i hi => by omega) (hcap j hj hj'))
        refine (hspec.2 M w _ h.hi.mem hAR).mono ?_
        rintro e' w' ⟨u, M', rfl, hm, hn, ⟨ws, r1, r2, r3⟩, hb⟩
        have hown : w'.ownsRow 0 e d.w u d.len ws := by
          refine ⟨r1.1, ?_⟩
          rcases r1.2 with r | ⟨g, cap, cur, e1, -, r⟩
          · exact .inl r
          · exact .inr ⟨g, cap, cur, e1, Nat.zero_le _, r⟩
        have hR1 : RA P cf M0 w0 N φ M' ⟨T, H⟩ a w' := ⟨h.cf, Mem.le_trans h.le hm, fun ad v e => by
          rcases (hn ad v e).2 with h9 | h9
          · exact h.new ad v h9
          · exact .inr (Nat.le_trans h.below.size h9), h.hi.more hb hm hn, fun t => ⟨fun ht => AV.rel_mono hm ((h.t t).1 ht), (h.t t).2⟩, h.lt, h.own, h.size, h.below.trans (hb.mono h.below.size), h.defers⟩
        have hlen : (H ++ [Ob.row e d]).length = H.length + 1 := by simp
        have hu : ∀ g, blk u = some g → w.heap.size ≤ g := fun g hg' => by
          rcases r1.2 with ⟨r, _⟩ | ⟨g', cap, cur, e1, r, _⟩
          · rw [r] at hg'; cases hg'
          · rw [e1] at hg'; simp only [blk, Option.some.injEq] at hg'; omega
        have hφ : ∀ i, i < H.length → upd φ H.length u i = φ i := fun i hi => upd_ne φ u (by omega)
        have hcase : ∀ (i : Nat) (p : Ob), (H ++ [Ob.row e d])[i]? = some p → (i < H.length ∧ H[i]? = some p ∧ upd φ H.length u i = φ i) ∨ (i = H.length ∧ p = .row e d ∧ upd φ H.length u i = u) := fun i p hi => by
          rcases Nat.lt_or_ge i H.length with hlt | hge
          · rw [List.getElem?_append_left hlt] at hi
            exact .inl ⟨hlt, hi, hφ i hlt⟩
          · rw [List.getElem?_append_right hge] at hi
            have : i - H.length = 0 := by
              cases e : i - H.length with
              | zero => rfl
              | succ n => rw [e] at hi; simp at hi
            have e : i = H.length := by omega
            subst e
            simp at hi
            exact .inr ⟨rfl, hi.symm, upd_same φ _ u⟩
        have hR : RA P cf M0 w0 N (upd φ H.length u) M' ⟨T, H ++ [Ob.row e d]⟩ a w' := by
          refine ⟨h.cf, hR1.le, hR1.new, ⟨hR1.hi.mem, fun i p hi => ?_, fun i p g hi hp hg ad v e => ?_, fun i j p q g hi hp hj hq hg hg' => ?_, fun i p hi => ?_⟩, fun t => ⟨fun ht => AV.rel_imp ((hR1.t t).1 ht) fun y hy u hu => Lf.rel_phi (h.lt t y hy) hφ hu, (h.t t).2⟩, fun t => AV.lt_mono (by rw [hlen]; exact Nat.le_succ _) (h.lt t), fun i p g hi hp hg => ?_, h.size, hR1.below, h.defers⟩
          · rcases hcase i p hi with ⟨hlt, h1, h2⟩ | ⟨rfl, rfl, h2⟩
            · rw [h2]
              exact Ob.rel_phi (h.hi.wf i p h1) hφ (hR1.hi.ob i p h1)
            · rw [h2]
              exact ⟨ws, hown, r2⟩
          · rcases hcase i p hi with ⟨_, h1, h2⟩ | ⟨rfl, rfl, h2⟩
            · rw [h2] at hg
              exact hR1.hi.off i p g h1 hp hg ad v e
            · rw [h2] at hg
              intro e3
              exact r3 ad v e (by rw [hg, e3])
          · rcases hcase i p hi with ⟨_, h1, h2⟩ | ⟨rfl, rfl, h2⟩ <;> rcases hcase j q hj with ⟨_, k1, k2⟩ | ⟨rfl, rfl, k2⟩
            · rw [h2] at hg
              rw [k2] at hg'
              exact h.hi.inj i j p q g h1 hp k1 hq hg hg'
            · rw [h2] at hg
              rw [k2] at hg'
              have := Ob.blk_lt (h.hi.ob i p h1) hp hg
              have := hu g hg'
              omega
            · rw [h2] at hg
              rw [k2] at hg'
              have := Ob.blk_lt (h.hi.ob j q k1) hq hg'
              have := hu g hg
              omega
            · rfl
          · rw [hlen]
            rcases hcase i p hi with ⟨_, h1, h2⟩ | ⟨rfl, rfl, h2⟩
            · exact Ob.lt_mono (Nat.le_succ _) (h.hi.wf i p h1)
            · trivial
          · rcases hcase i p hi with ⟨_, h1, h2⟩ | ⟨rfl, rfl, h2⟩
            · rw [h2] at hg
              exact h.own i p g h1 hp hg
            · rw [h2] at hg
              exact Nat.le_trans h.below.size (hu g hg)
        exact hK _ _ (K _ _ _ _ (hR.put (d := o.dst) hd (Mem.le_refl _) hR.new hR.hi hR.below ⟨fun _ => (upd_same _ _ _).symm, fun hf => by cases hf⟩ (AV.lt_one.2 (by simp [Lf.ltB]))))
    · cases h1
  · cases h1

theorem step_opOK {K : St → Prop} {X : St} (hd : o.dst.all (Nat.blt · N) = true) (hs : quietW cf ops K o X) : opOK P cf X.H N ops o X.T ((guardOf ops o X.T).2, (qev cf X.H X.T (guardOf ops o X.T).2 o.op).2) ∧ K ⟨X.T.put o.dst ((guardOf ops o X.T).2, (qev cf X.H X.T (guardOf ops o X.T).2 o.op).2), X.H⟩ :=
  ⟨⟨hd, hs.1, rfl, .inr ⟨hs.2.1, rfl⟩⟩, hs.2.2⟩
theorem wpList_op {v : Bool × AV} {X : St} (hR : RA P cf M0 w0 N φ M X a w) (hok : opOK P cf X.H N ops o X.T v) (K : ∀ M' a' w', RA P cf M0 w0 N φ M' ⟨X.T.put o.dst v, X.H⟩ a' w' → wpList P ops Q rest a' w') : wpList P ops Q (o :: rest) a w := by
  have := op_step (Q := Q) hR hok (K := wpList P ops Q rest) (fun M' a' w' _ hR' => K M' a' w' hR')
  unfold wpList
  split
  · rename_i hw
    rw [if_pos hw] at this
    exact .inl this
  · rename_i hw
    rw [if_neg hw] at this
    exact this
theorem wpList_step {K : St → Prop} {X : St} (hR : RA P cf M0 w0 N φ M X a w) (hs : stepW P cf N ops K o X) (hK : ∀ φ' M' X' a' w', K X' → RA P cf M0 w0 N φ' M' X' a' w' → wpList P ops Q rest a' w') : wpList P ops Q (o :: rest) a w := by
  obtain ⟨hd, hs⟩ := hs
  have hq : quietW cf ops K o X → wpList P ops Q (o :: rest) a w := fun hq => by
    obtain ⟨h1, h2⟩ := step_opOK (P := P) hd hq
    exact wpList_op hR h1 fun M' a' w' hR' => hK _ _ _ _ _ h2 hR'
  split at hs
  case h_1 t x ho =>
    obtain ⟨hg, hs⟩ := hs
    split at hs
    · rename_i v hx
      split at hs
      · rename_i cs hcs
        exact ef_box hR hg hd ho hx hcs hs.1 fun φ' a' w' hR' => hK _ _ _ _ _ hs.2 hR'
      · exact hs.elim
    · exact hs.elim
  case h_2 t ho =>
    obtain ⟨hg, hz, hs⟩ := hs
    exact ef_alloc hR hg hd ho hz fun φ' a' w' hR' => hK _ _ _ _ _ hs hR'
  case h_3 t x y ho =>
    obtain ⟨hg, hd', hz, hs⟩ := hs
    split at hs
    · rename_i i off v hx hy
      split at hs
      · rename_i cs hi
        obtain ⟨h1, h2, h3, h4⟩ := hs
        obtain ⟨k1, k2⟩ := cells_oneB h1
        exact ef_store_box hR hg hd' ho hz hx hi hy k1 k2 h1 h2 h3 fun a' w' hR' => hK _ _ _ _ _ h4 hR'
      · exact hs.elim
    · rename_i i wd j off v hx hy
      split at hs
      · rename_i e c hi
        split at hs
        · rename_i c' hp
          obtain ⟨h1, h2, h3, h4, h5, h6⟩ := hs
          exact ef_store_row hR hg hd' ho hz hx hi hy h1 h2 h3 h4 h5 hp fun a' w' hR' => hK _ _ _ _ _ h6 hR'
        · exact hs.elim
      · exact hs.elim
    · exact hs.elim
  case h_4 t x y ho =>
    obtain ⟨hg, hs⟩ := hs
    split at hs
    · rename_i m m' e hx hy ht
      split at hs
      · rename_i c hc
        obtain ⟨rfl, hz, h0, h1, hw, hzv, hby, hs⟩ := hs
        exact ef_make hR hg hd ho ht hz hx hy h0 h1 hc hw hzv hby fun φ' a' w' hR' => hK _ _ _ _ _ hs hR'
      · exact hs.elim
    · exact hs.elim
  case h_5 t n parts ho =>
    obtain ⟨hg, hs⟩ := hs
    split at hs
    · rename_i e ht
      split at hs
      · rename_i c hc
        obtain ⟨rfl, hz, hs⟩ := hs
        exact ef_lit0 hR hg hd ho ht hz hc fun φ' a' w' hR' => hK _ _ _ _ _ hs hR'
      · exact hs.elim
    · rename_i n e ht
      obtain ⟨hidx, hs⟩ := hs
      split at hs
      · rename_i vs hvs
        split at hs
        · rename_i c hc
          obtain ⟨hz, hn, hsz, hw, hs⟩ := hs
          exact ef_lit hR hg hd ho ht hz (Nat.succ_pos _) hn hidx hvs hsz hc hw fun M' a' w' hR' => hK _ _ _ _ _ hs hR'
        · exact hs.elim
      · exact hs.elim
    · exact hs.elim
  case h_6 c ho =>
    obtain ⟨cl, ⟨as⟩, ⟨ts⟩⟩ := c
    split at hs
    · rename_i x y t t' _ _ _
      simp only at *
      subst_vars
      obtain ⟨hg, rfl, hs⟩ := hs
      split at hs
      · rename_i i v e hx hy ht
        split at hs
        · rename_i e' c c2 hi hc
          split at hs
          · rename_i c' hap
            obtain ⟨rfl, hz, hw, h0, hn, hby, hs⟩ := hs
            exact ef_app hR hg hd ho ht hz hx hi hy hc hw h0 hap hn hby fun φ' a' w' hR' => hK _ _ _ _ _ hs hR'
          · exact hs.elim
        · exact hs.elim
      · rename_i v e hx hy ht
        split at hs
        · rename_i c2 hc
          obtain ⟨hz, hw, h0, hn, hby, hs⟩ := hs
          exact ef_app_nil hR hg hd ho ht hz hx hy hc hw h0 hn hby fun φ' a' w' hR' => hK _ _ _ _ _ hs hR'
        · exact hs.elim
      · exact hs.elim
    · rcases hs with ⟨hg, r, hc, hs⟩ | ⟨hg, e, d, hc, hs⟩
      · exact wpList_op (v := ((guardOf ops o X.T).2, r)) hR ⟨hd, hg, rfl, .inl ⟨_, ho, hc⟩⟩ fun M' a' w' hR' => hK _ _ _ _ _ hs hR'
      · exact ef_call hR hg hd ho hc fun φ' M' a' w' hR' => hK _ _ _ _ _ hs hR'
    · exact hq hs
  case h_7 => exact hq hs
theorem wpList_of_sW {K : St → Prop} {Q' : Exit → Act → World → Prop} (hQ : ∀ φ' M' X' a' w', K X' → RA P cf M0 w0 N φ' M' X' a' w' → Q' .normal a' w') : ∀ (l : List Oper) (φ : Nat → Value) (M : Mem) (X : St) (a : Act) (w : World),
    RA P cf M0 w0 N φ M X a w → sW P cf N ops K l X → wpList P ops Q' l a w
  | [], _, _, _, _, _, hR, h => hQ _ _ _ _ _ h hR
  | o :: l, _, _, _, _, _, hR, h => wpList_step hR h fun φ' M' X' a' w' hK hR' => wpList_of_sW hQ l φ' M' X' a' w' hR' hK
end
section
variable {P : Program} {cf : Cfg} {M0 : Mem} {w0 : World} {N : Nat} {Q : Exit → St → Prop} {X : St}
/-- a region that does not draw -/
theorem awp_reg {id : Nat} {l : List Oper} (h : sW P cf N l.toArray (fun X' => Q .normal X') l X) : awp P cf M0 w0 N (.region id l.toArray false) Q X := fun a w ⟨φ, M, hR⟩ =>
  wp_region_lit (wpList_of_sW (K := fun X' => Q .normal X') (fun φ' M' X' a' w' hQ hR' => ⟨_, hQ, φ', M', hR'⟩) l φ M X a w hR h)
/-- a slice is given away -/
theorem awp_frz {c : Code} (i : Nat) {e : Nat} {d : Cn} (hi : X.H[i]? = some (.row e d)) (h : awp P cf M0 w0 N c Q ⟨X.T.map (Lf.frz i d), (X.H.map (Ob.map (Lf.frz i d))).set i .gone⟩) : awp P cf M0 w0 N c Q X := fun a w ⟨φ, M, hR⟩ => by
  obtain ⟨M', hR'⟩ := hR.freeze hi
  exact h a w ⟨φ, M', hR'⟩
end
end Am
end Go.Proofs.Ytoaecbdpkmeenaa
