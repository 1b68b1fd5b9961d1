/- Rules by which the machine is run: regions in whatever order, loops, calls. Conditions: those that each names. -/
import Derived.Test.YtoaecbdpkmeenaaAm12
namespace Go.Proofs.Ytoaecbdpkmeenaa
namespace Am
open Go Go.RowKit

section
variable {P : Program} {cf : Cfg} {M0 : Mem} {w0 : World} {N : Nat} {φ : Nat → Value} {M : Mem} {X : St} {a : Act} {w : World} {Q : Exit → St → Prop}
/-- one operation of a region in whatever order -/
def dStep (P : Program) (cf : Cfg) (H : List Ob) (N : Nat) (ops : Array Oper) (K : Tm → Prop) (o : Oper) (T : Tm) : Prop :=
  o.dst.all (Nat.blt · N) = true ∧ match o.op with
  | .call c => (match c.callee with
    | .value _ => (guardOf ops o T).1 ∧ ∃ r, callOK P H T (guardOf ops o T).2 c r ∧ K (T.put o.dst ((guardOf ops o T).2, r))
    | _ => (guardOf ops o T).1 ∧ (qev cf H T (guardOf ops o T).2 o.op).1 ∧ K (T.put o.dst ((guardOf ops o T).2, (qev cf H T (guardOf ops o T).2 o.op).2)))
  | _ => (guardOf ops o T).1 ∧ (qev cf H T (guardOf ops o T).2 o.op).1 ∧ K (T.put o.dst ((guardOf ops o T).2, (qev cf H T (guardOf ops o T).2 o.op).2))
def dR (P : Program) (cf : Cfg) (H : List Ob) (N : Nat) (ops : Array Oper) (Q : Tm → Prop) : List Oper → Tm → Prop
  | [], T => Q T
  | o :: l, T => dStep P cf H N ops (dR P cf H N ops Q l) o T
theorem dW_of_dR {H : List Ob} {ops : Array Oper} {Q : Tm → Prop} : ∀ (l : List Oper) (T : Tm), dR P cf H N ops Q l T → dW P cf H N ops Q l T
  | [], T, h => h
  | o :: l, T, h => by
    obtain ⟨h1, h2⟩ := h
    have hq : ((guardOf ops o T).1 ∧ (qev cf H T (guardOf ops o T).2 o.op).1 ∧ dR P cf H N ops Q l (T.put o.dst ((guardOf ops o T).2, (qev cf H T (guardOf ops o T).2 o.op).2))) → dW P cf H N ops Q (o :: l) T := fun ⟨g1, g2, g3⟩ =>
      ⟨_, ⟨h1, g1, rfl, .inr ⟨g2, rfl⟩⟩, dW_of_dR l _ g3⟩
    split at h2
    · rename_i c hc
      split at h2
      · obtain ⟨g1, r, g2, g3⟩ := h2
        exact ⟨((guardOf ops o T).2, r), ⟨h1, g1, rfl, .inl ⟨c, hc, g2⟩⟩, dW_of_dR l _ g3⟩
      · exact hq h2
    · exact hq h2
theorem awp_any {id : Nat} {l : List Oper} (hm : P.follows .mixedOrders = true) (hB : Region.lexB .any l.toArray = true) (h : dR P cf X.H N l.toArray (fun T => Q .normal ⟨T, X.H⟩) l X.T) : awp P cf M0 w0 N (.region id l.toArray true) Q X :=
  awp_draw hm hB (dW_of_dR _ _ h)

/-! ### the same, or less known -/
/-- the table B tells no more than the state X, and owned memory is the same -/
def leK (B : List (Nat × Bool × AV)) (H' : List Ob) (X : St) : Prop := (∀ p ∈ B, X.T p.1 = p.2 ∨ p.2 = (true, .und)) ∧ H' = X.H
/-- the same, and only the first n of what is owned are kept -/
def leT (n : Nat) (B : List (Nat × Bool × AV)) (H' : List Ob) (X : St) : Prop := (∀ p ∈ B, X.T p.1 = p.2 ∨ p.2 = (true, .und)) ∧ H' = X.H.take n ∧ n ≤ X.H.length ∧ (∀ p ∈ B, p.2.2.leaves.all (Lf.ltB n) = true) ∧ ∀ o ∈ H', o.lt n
theorem tab_mem : ∀ (B : List (Nat × Bool × AV)) (t : Nat), (∃ p ∈ B, p.1 = t ∧ tab B t = p.2) ∨ tab B t = (true, .und)
  | [], t => .inr rfl
  | p :: B, t => by
    by_cases h : t = p.1
    · exact .inl ⟨p, List.mem_cons_self, h.symm, by show (bif Nat.beq t p.1 then p.2 else tab B t) = _; rw [h]; simp⟩
    · have hb : Nat.beq t p.1 = false := by rw [Bool.eq_false_iff]; exact fun k => h (Nat.eq_of_beq_eq_true k)
      rcases tab_mem B t with ⟨q, h1, h2, h3⟩ | h1
      · exact .inl ⟨q, List.mem_cons_of_mem _ h1, h2, by show (bif Nat.beq t p.1 then p.2 else tab B t) = _; rw [hb]; exact h3⟩
      · exact .inr (by show (bif Nat.beq t p.1 then p.2 else tab B t) = _; rw [hb]; exact h1)
theorem keys_le {B : List (Nat × Bool × AV)} (h : ∀ p ∈ B, X.T p.1 = p.2 ∨ p.2 = (true, .und)) (t : Nat) : tab B t = X.T t ∨ tab B t = (true, .und) := by
  rcases tab_mem B t with ⟨p, h1, h2, h3⟩ | h1
  · rcases h p h1 with h4 | h4
    · exact .inl (by rw [h3, ← h4, h2])
    · exact .inr (by rw [h3, h4])
  · exact .inr h1
theorem R.leK {B : List (Nat × Bool × AV)} {H' : List Ob} (hl : leK B H' X) (h : R P cf M0 w0 N X a w) : R P cf M0 w0 N ⟨tab B, H'⟩ a w := by
  obtain ⟨φ, M, h⟩ := h
  obtain ⟨h1, rfl⟩ := hl
  refine ⟨φ, M, h.cf, h.le, h.new, h.hi, fun t => ?_, fun t => ?_, h.own, h.size, h.below, h.defers⟩
  · show ((tab B t).1 = true → (tab B t).2.rel φ M _) ∧ ((tab B t).1 = false → _)
    rcases keys_le h1 t with e | e
    · rw [e]; exact h.t t
    · rw [e]; exact ⟨fun _ => trivial, fun hf => by cases hf⟩
  · show (tab B t).2.lt _
    rcases keys_le h1 t with e | e
    · rw [e]; exact h.lt t
    · rw [e]; exact und_lt
theorem leT.le {n : Nat} {B : List (Nat × Bool × AV)} {H' : List Ob} (hl : leT n B H' X) : X.le ⟨tab B, H'⟩ := by
  obtain ⟨h1, h2, h0, h3, h4⟩ := hl
  have hn : H'.length = n := by rw [h2, List.length_take]; omega
  refine ⟨fun t => keys_le h1 t, n, h2, fun t => ?_, fun i o hi => ?_⟩
  · show (tab B t).2.lt H'.length
    rw [hn]
    rcases tab_mem B t with ⟨p, h5, h6, h7⟩ | e
    · rw [h7]; exact fun y hy => List.all_eq_true.1 (h3 p h5) y hy
    · rw [e]; exact und_lt
  · rw [hn]
    exact h4 o (List.mem_of_getElem? hi)
theorem awp_leK {c : Code} {B : List (Nat × Bool × AV)} {H' : List Ob} (hl : leK B H' X) (h : awp P cf M0 w0 N c Q ⟨tab B, H'⟩) : awp P cf M0 w0 N c Q X := fun a w hR => h a w (hR.leK hl)
theorem awp_leT {c : Code} (n : Nat) {B : List (Nat × Bool × AV)} {H' : List Ob} (hl : leT n B H' X) (h : awp P cf M0 w0 N c Q ⟨tab B, H'⟩) : awp P cf M0 w0 N c Q X := awp_le hl.le h
/-- the slots whose values stay -/
def kept (T : Tm) (ss : List Nat) : List (Nat × Bool × AV) := ss.map fun s => (s, T s)
/-- a loop: in round k the slots of chg k have turned, those of ss have not, and owned memory is H k -/
theorem awp_rounds {c : Code} {α : Type} (chg : α → List (Nat × Bool × AV)) (ss : List Nat) (H : α → List Ob) (I : α → Prop) (μ : α → Nat) (k0 : α) (h0 : leK (chg k0 ++ kept X.T ss) (H k0) X) (hI : I k0)
    (hr : ∀ k, I k → awp P cf M0 w0 N c (thenQ (fun X' => ∃ k', I k' ∧ μ k' < μ k ∧ (leK (chg k' ++ kept X.T ss) (H k') X' ∨ ∃ n, leT n (chg k' ++ kept X.T ss) (H k') X')) Q) ⟨tab (chg k ++ kept X.T ss), H k⟩) : awp P cf M0 w0 N (.loop c) Q X := fun a w hR => by
  have key : ∀ n k a w, μ k < n → I k → R P cf M0 w0 N ⟨tab (chg k ++ kept X.T ss), H k⟩ a w → Code.rounds P c (fun e a' w' => ∃ X', Q e X' ∧ R P cf M0 w0 N X' a' w') n a w := by
    intro n
    induction n with
    | zero => intro k a w hn; omega
    | succ n ih =>
      intro k a w hn hk hR
      rw [rounds_succ]
      refine Code.wp_mono (fun e a' w' hq => ?_) (hr k hk a w hR)
      obtain ⟨X', h1, h2⟩ := hq
      cases e with
      | normal =>
        obtain ⟨k', h4, h5, h3⟩ := h1
        refine ih k' a' w' (by omega) h4 ?_
        rcases h3 with h3 | ⟨m, h3⟩
        · exact h2.leK h3
        · exact h2.le h3.le
      | _ => exact ⟨X', h1, h2⟩
  exact wp_loop_rounds (μ k0 + 1) (key _ k0 a w (Nat.lt_succ_self _) hI (hR.leK h0))
theorem leK_cons {p : Nat × Bool × AV} {B : List (Nat × Bool × AV)} {H' : List Ob} (h : X.T p.1 = p.2) (hB : leK B H' X) : leK (p :: B) H' X :=
  ⟨fun q hq => by rcases List.mem_cons.1 hq with rfl | hq; exact .inl h; exact hB.1 q hq, hB.2⟩
theorem leK_nil {H' : List Ob} (h : H' = X.H) : leK [] H' X := ⟨fun _ h => by simp at h, h⟩
end
theorem int_eq {a b : Int} (h : a = b) : ((true, AV.int a) : Bool × AV) = (true, AV.int b) := by rw [h]
theorem int_eq1 {a b : Int} (h : a = b) : AV.int a = AV.int b := by rw [h]
theorem frz_tab (i : Nat) (c : Cn) (L : List (Nat × Bool × AV)) : (tab L).map (Lf.frz i c) = tab (L.map fun p => (p.1, p.2.1, p.2.2.map (Lf.frz i c))) := map_tab _ rfl L
theorem kill_tab (i : Nat) (L : List (Nat × Bool × AV)) : (tab L).map (Lf.kill i) = tab (L.map fun p => (p.1, p.2.1, p.2.2.map (Lf.kill i))) := map_tab _ rfl L
theorem kept_nil (T : Tm) : kept T [] = [] := rfl
theorem kept_cons (T : Tm) (s : Nat) (ss : List Nat) : kept T (s :: ss) = (s, T s) :: kept T ss := rfl

theorem qev_unOp (cf : Cfg) (H : List Ob) (T : Tm) (g : Bool) (op : UnOp) (t : Nat) (x : Operand) : qev cf H T g (.unOp op t x) = match op, look T x with
    | .not, (gx, .tv (.one (.b (.val (.bool v))))) => (need g gx, .bool (!v))
    | .neg, (gx, .tv (.one (.b (.val (.int .i64 n))))) => (need g gx ∧ (g = true → I64 (-n)), .int (-n))
    | _, _ => (False, .und) := rfl
theorem qev_makeFunc (cf : Cfg) (H : List Ob) (T : Tm) (g : Bool) (fn : Fn) (first cap : Array Operand) : qev cf H T g (.makeFunc fn first cap) = match fn, first.toList with
    | .func f, [] => ((∀ x ∈ cap.toList, need g (look T x).1 ∧ ∃ l, (look T x).2 = .tv (.one l)), .clo f (cap.toList.map fun x => match (look T x).2 with | .tv (.one l) => l | _ => .und))
    | _, _ => (False, .und) := rfl
/-! ### lengths are ints -/
abbrev lim : Nat := 9223372036854775807
def Cn.fits : Cn → Prop
  | .ints xs => xs.length ≤ lim
  | .ii xs => xs.length ≤ lim ∧ ∀ x ∈ xs, x.length ≤ lim
  | .iii xs => xs.length ≤ lim ∧ ∀ x ∈ xs, x.length ≤ lim ∧ ∀ y ∈ x, y.length ≤ lim
  | .k n xs => xs.length ≤ lim ∧ ∀ x ∈ xs, x.length = n
  | .ki n xs => xs.length ≤ lim ∧ ∀ x ∈ xs, x.length ≤ lim ∧ ∀ y ∈ x, y.length = n
  | .kii n xs => xs.length ≤ lim ∧ ∀ x ∈ xs, x.length ≤ lim ∧ ∀ y ∈ x, y.length ≤ lim ∧ ∀ z ∈ y, z.length = n
def Lf.fits : Lf → Prop
  | .b (.sl c) => c.fits
  | _ => True
def Lf.fitsAll : List Lf → Prop
  | [] => True
  | x :: xs => x.fits ∧ fitsAll xs
theorem ShM.le {M : Mem} {u : Value} {n : Nat} {vs : List Value} (h : ShM M u n vs) : n ≤ lim := by
  obtain ⟨A, c, _, h1, h2, _⟩ := h
  exact Nat.le_trans h1 h2
theorem SO.le {α : Type} {R : Mem → Value → List α → Prop} {M : Mem} {u : Value} {xs : List (List α)} (h : SO R M u xs) : xs.length ≤ lim := by
  obtain ⟨vs, h1, _⟩ := h
  exact h1.le
theorem SO.mem {α : Type} {R : Mem → Value → List α → Prop} {M : Mem} {u : Value} {xs : List (List α)} (h : SO R M u xs) {x : List α} (hx : x ∈ xs) : ∃ u', R M u' x := by
  obtain ⟨vs, h1, h2⟩ := h
  obtain ⟨j, hj, rfl⟩ := List.mem_iff_getElem.1 hx
  obtain ⟨u', _, h3⟩ := h2.2 j 0 hj (by omega)
  simp only [List.getD_eq_getElem?_getD, List.getElem?_eq_getElem hj, Option.getD_some] at h3
  exact ⟨u', h3⟩
theorem SI.le {M : Mem} {u : Value} {xs : List Int} (h : SI M u xs) : xs.length ≤ lim := by
  obtain ⟨vs, h1, _⟩ := h
  exact h1.le
theorem SK.le {n : Nat} {M : Mem} {u : Value} {xs : List (List Int)} (h : SK n M u xs) : xs.length ≤ lim ∧ ∀ x ∈ xs, x.length = n := by
  obtain ⟨h0, vs, h1, _⟩ := h
  exact ⟨h1.le, h0⟩
theorem SII.le {M : Mem} {u : Value} {xs : List (List Int)} (h : SII M u xs) : xs.length ≤ lim ∧ ∀ x ∈ xs, x.length ≤ lim := ⟨SO.le h, fun x hx => by obtain ⟨u', h1⟩ := SO.mem h hx; exact h1.le⟩
theorem SKI.le {n : Nat} {M : Mem} {u : Value} {xs : List (List (List Int))} (h : SKI n M u xs) : xs.length ≤ lim ∧ ∀ x ∈ xs, x.length ≤ lim ∧ ∀ y ∈ x, y.length = n := ⟨SO.le h, fun x hx => by obtain ⟨u', h1⟩ := SO.mem h hx; exact h1.le⟩
theorem Cn.fits_of {M : Mem} {c : Cn} {u : Value} (h : (B.sl c).rel M u) : c.fits := by
  cases c with
  | ints xs => exact SI.le h
  | ii xs => exact SII.le h
  | iii xs => exact ⟨SO.le (show SIII M u xs from h), fun x hx => by obtain ⟨u', h1⟩ := SO.mem (show SIII M u xs from h) hx; exact SII.le h1⟩
  | k n xs => exact SK.le h
  | ki n xs => exact SKI.le h
  | kii n xs => exact ⟨SO.le (show SKII n M u xs from h), fun x hx => by obtain ⟨u', h1⟩ := SO.mem (show SKII n M u xs from h) hx; exact SKI.le h1⟩
theorem Lf.fits_of {φ : Nat → Value} {M : Mem} {x : Lf} {u : Value} (h : x.rel φ M u) : x.fits := by
  cases x with
  | b x => cases x with
    | val v => trivial
    | sl c => exact Cn.fits_of h
  | _ => trivial
theorem Lf.fitsAll_of {φ : Nat → Value} {M : Mem} : ∀ {xs : List Lf}, (∀ x ∈ xs, ∃ u, x.rel φ M u) → Lf.fitsAll xs
  | [], _ => trivial
  | x :: xs, h => ⟨by obtain ⟨u, hu⟩ := h x List.mem_cons_self; exact Lf.fits_of hu, fitsAll_of fun y hy => h y (List.mem_cons_of_mem _ hy)⟩
def AV.fits (v : AV) : Prop := match v with
  | .tv (.one x) => x.fits
  | .tv (.agg xs) => Lf.fitsAll xs
  | _ => True
theorem AV.fits_of {φ : Nat → Value} {M : Mem} {v : AV} {u : Value} (h : v.rel φ M u) : v.fits := by
  cases v with
  | tv x => cases x with
    | one x => exact Lf.fits_of h
    | agg xs =>
      obtain ⟨us, _, h1, h2⟩ := h
      exact Lf.fitsAll_of fun x hx => by
        obtain ⟨j, hj, rfl⟩ := List.mem_iff_getElem.1 hx
        exact ⟨us[j], h2 j hj (by omega)⟩
  | clo f xs => trivial
  | tup xs => trivial
theorem awp_fits {P : Program} {cf : Cfg} {M0 : Mem} {w0 : World} {N : Nat} {X : St} {Q : Exit → St → Prop} {c : Code} (t : Nat) (ht : (X.T t).1 = true) (h : (X.T t).2.fits → awp P cf M0 w0 N c Q X) : awp P cf M0 w0 N c Q X := fun a w hR => by
  refine h ?_ a w hR
  obtain ⟨φ, M, h⟩ := hR
  exact AV.fits_of ((h.t t).1 ht)
end Am
end Go.Proofs.Ytoaecbdpkmeenaa
