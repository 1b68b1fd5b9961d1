/- Regions in whatever order, and code, on the abstract machine's states. Conditions: those that each names. -/
import Derived.Test.YtoaecbdpkmeenaaAm4
import Derived.Orders
import Derived.LoopN
namespace Go.Proofs.Ytoaecbdpkmeenaa
namespace Am
open Go Go.RowKit

/-! ### an operation looks at its operands alone -/
theorem look_put {T : Tm} {d : Option Nat} {v : Bool × AV} {x : Operand} (h : ∀ t, d = some t → x ≠ .tmp t) : look (T.put d v) x = look T x := by
  cases d with
  | none => rfl
  | some d =>
    cases x with
    | tmp t =>
      have hne : Nat.beq t d = false := by
        rw [Bool.eq_false_iff]
        intro e
        exact h d rfl (by rw [Nat.eq_of_beq_eq_true e])
      simp [look, Tm.put, hne]
    | _ => rfl
theorem mapM_congr {α β : Type} {f g : α → Option β} : ∀ {xs : List α}, (∀ x ∈ xs, f x = g x) → xs.mapM f = xs.mapM g
  | [], _ => rfl
  | x :: xs, h => by rw [List.mapM_cons, List.mapM_cons, h x (by simp), mapM_congr fun y hy => h y (by simp [hy])]
theorem qev_congr {cf : Cfg} {H : List Ob} {T T' : Tm} {g : Bool} (op : Op) (h : ∀ x ∈ op.operands, look T' x = look T x) : qev cf H T' g op = qev cf H T g op := by
  cases op <;> simp only [Op.operands] at h <;> simp only [qev]
  case move x => rw [h x (by simp)]
  case assign x => rw [h x (by simp)]
  case nilCheck x => rw [h x (by simp)]
  case pick c a b => rw [h c (by simp), h a (by simp), h b (by simp)]
  case load t x => rw [h x (by simp)]
  case binOp op t x y t' => rw [h x (by simp), h y (by simp)]
  case unOp op t x => rw [h x (by simp)]
  case fieldAddr s x f => rw [h x (by simp)]
  case indexAddr t x ix => rw [h x (by simp), h ix (by simp)]
  case extract x j => rw [h x (by simp)]
  case build t parts =>
    rw [mapM_congr (g := partA cf T t) fun p hp => by
      have : look T' p.2 = look T p.2 := h p.2 (by simp only [List.mem_toArray, List.mem_map]; exact ⟨p, hp, rfl⟩)
      unfold partA
      rw [this]]
  case makeFunc fn first cap =>
    have hc : ∀ x ∈ cap.toList, look T' x = look T x := fun x hx => h x (Array.mem_append.2 (.inr (Array.mem_toList_iff.1 hx)))
    split
    · simp only [Prod.mk.injEq]
      refine ⟨?_, ?_⟩
      · apply propext
        exact ⟨fun k x hx => by rw [← hc x hx]; exact k x hx, fun k x hx => by rw [hc x hx]; exact k x hx⟩
      · congr 1
        exact List.map_congr_left fun x hx => by rw [hc x hx]
    · rfl
  case call c =>
    obtain ⟨cl, ⟨as⟩, ⟨ts⟩⟩ := c
    split
    · rename_i x t _ _ _
      simp only at *
      subst_vars
      rw [h _ (by simp [Call.operands])]
    · rename_i x y _ _
      simp only at *
      subst_vars
      rw [h _ (by simp [Call.operands]), h _ (by simp [Call.operands])]
    · rename_i x y _ _
      simp only at *
      subst_vars
      rw [h _ (by simp [Call.operands]), h _ (by simp [Call.operands])]
    · rfl
theorem callOK_congr {P : Program} {H : List Ob} {T T' : Tm} {g : Bool} {c : Call} {r : AV} (h : ∀ x ∈ c.operands, look T' x = look T x) (k : callOK P H T g c r) : callOK P H T' g c r := by
  obtain ⟨gc, f, xs, vs, h1, h2, h3, h4, h5, h6⟩ := k
  have ha : ∀ x ∈ c.args.toList, look T' x = look T x := fun x hx => h x (Array.mem_append.2 (.inr (Array.mem_toList_iff.1 hx)))
  have hc : calleeOf T' c = calleeOf T c := by
    unfold calleeOf
    cases e : c.callee with
    | value x => simp only; rw [h x (by simp [Call.operands, e])]
    | _ => rfl
  refine ⟨gc, f, xs, vs, by rw [hc]; exact h1, h2, fun x hx => by rw [ha x hx]; exact h3 x hx, ?_, h5, ?_⟩
  · rw [← h4]
    unfold argsOf
    rw [mapM_congr (g := fun x => viewA H (look T x).2) fun x hx => by rw [ha x hx]]
  · rcases h6 with h6 | ⟨h6, h7, h8⟩
    · exact .inl h6
    · exact .inr ⟨h6, fun x hx => by rw [ha x hx]; exact h7 x hx, h8⟩
section
variable {P : Program} {cf : Cfg} {H : List Ob} {N : Nat} {ops : Array Oper}
theorem opOK_congr {o : Oper} {T T' : Tm} {v : Bool × AV} (h : ∀ x ∈ o.op.operands, look T' x = look T x) (hg : guardOf ops o T' = guardOf ops o T) (k : opOK P cf H N ops o T v) : opOK P cf H N ops o T' v := by
  obtain ⟨h1, h2, h3, h4⟩ := k
  refine ⟨h1, by rw [hg]; exact h2, by rw [hg]; exact h3, ?_⟩
  rcases h4 with ⟨c, hc, h5⟩ | ⟨h5, h6⟩
  · exact .inl ⟨c, hc, callOK_congr (fun x hx => h x (by rw [hc]; exact hx)) h5⟩
  · rw [← qev_congr o.op h] at h5 h6
    exact .inr ⟨h5, h6⟩
theorem opOK_put {o : Oper} {T : Tm} {v u : Bool × AV} {d : Option Nat} (hd : ∀ t, d = some t → t ∉ o.looksAt ops) (k : opOK P cf H N ops o T v) : opOK P cf H N ops o (T.put d u) v := by
  refine opOK_congr (fun x hx => look_put fun t ht hxt => hd t ht ?_) ?_ k
  · subst hxt
    exact List.mem_append_left _ (List.mem_filterMap.2 ⟨.tmp t, by simpa using hx, rfl⟩)
  · unfold guardOf
    cases e : o.guard with
    | none => rfl
    | some p =>
      obtain ⟨j, want⟩ := p
      simp only
      cases e1 : (ops[j]?).bind (·.dst) with
      | none => rfl
      | some t =>
        simp only
        have : look (T.put d u) (.tmp t) = look T (.tmp t) := look_put fun t' ht hxt => hd t' ht (by
          cases hxt
          refine List.mem_append_right _ ?_
          simp [e, e1])
        have h2 : (T.put d u) t = T t := this
        rw [h2]
theorem opOK_unput {o : Oper} {T : Tm} {v u : Bool × AV} {d : Option Nat} (hd : ∀ t, d = some t → t ∉ o.looksAt ops) (k : opOK P cf H N ops o (T.put d u) v) : opOK P cf H N ops o T v := by
  refine opOK_congr (fun x hx => (look_put fun t ht hxt => hd t ht ?_).symm) ?_ k
  · subst hxt
    exact List.mem_append_left _ (List.mem_filterMap.2 ⟨.tmp t, by simpa using hx, rfl⟩)
  · unfold guardOf
    cases e : o.guard with
    | none => rfl
    | some p =>
      obtain ⟨j, want⟩ := p
      simp only
      cases e1 : (ops[j]?).bind (·.dst) with
      | none => rfl
      | some t =>
        simp only
        have : look (T.put d u) (.tmp t) = look T (.tmp t) := look_put fun t' ht hxt => hd t' ht (by
          cases hxt
          refine List.mem_append_right _ ?_
          simp [e, e1])
        have h2 : (T.put d u) t = T t := this
        rw [h2]
theorem put_comm {T : Tm} {d e : Option Nat} {u v : Bool × AV} (h : ∀ t, d = some t → e ≠ some t) : (T.put d u).put e v = (T.put e v).put d u := by
  cases d with
  | none => rfl
  | some d =>
    cases e with
    | none => rfl
    | some e =>
      have hne : d ≠ e := fun k => h d rfl (by rw [k])
      funext s
      simp only [Tm.put]
      by_cases h1 : s = d
      · subst h1
        have : Nat.beq s e = false := by rw [Bool.eq_false_iff]; exact fun k => hne (Nat.eq_of_beq_eq_true k)
        simp [this]
      · have : Nat.beq s d = false := by rw [Bool.eq_false_iff]; exact fun k => h1 (Nat.eq_of_beq_eq_true k)
        simp [this]

/-! ### whatever order -/
def dW (P : Program) (cf : Cfg) (H : List Ob) (N : Nat) (ops : Array Oper) (Q : Tm → Prop) : List Oper → Tm → Prop
  | [], T => Q T
  | o :: l, T => ∃ v, opOK P cf H N ops o T v ∧ dW P cf H N ops Q l (T.put o.dst v)
def dAny (P : Program) (cf : Cfg) (H : List Ob) (N : Nat) (ops : Array Oper) (Q : Tm → Prop) : Nat → Array Bool → Tm → Prop
  | 0, listed, T => Region.ready .any ops listed = [] ∧ Q T
  | fuel + 1, listed, T => (Region.ready .any ops listed = [] → Q T) ∧ ∀ i ∈ Region.ready .any ops listed, ∃ o v, ops[i]? = some o ∧ opOK P cf H N ops o T v ∧ dAny P cf H N ops Q fuel (listed.setIfInBounds i true) (T.put o.dst v)
theorem dAny_first {Q : Tm → Prop} {i : Nat} {oi : Oper} {v : Bool × AV} (hi : ops[i]? = some oi) : ∀ (fuel : Nat) (listed : Array Bool) (T : Tm),
    (∀ j oj, ops[j]? = some oj → j ≠ i → listed.getD j true = false → (∀ e ∈ oj.after, Region.binds .any e = true → e.on ≠ i) → oi.apart ops oj = true) →
      i ∈ Region.ready .any ops listed → opOK P cf H N ops oi T v → dAny P cf H N ops Q fuel (listed.setIfInBounds i true) (T.put oi.dst v) → dAny P cf H N ops Q (fuel + 1) listed T := by
  intro fuel
  induction fuel with
  | zero =>
    intro listed T _ hr hy K
    refine ⟨fun h => (by rw [h] at hr; cases hr), fun j hj => ?_⟩
    by_cases hji : j = i
    · subst hji; exact ⟨oi, v, hi, hy, K⟩
    · have := ready_mono hj hji
      rw [K.1] at this
      cases this
  | succ fuel ih =>
    intro listed T hfree hr hy K
    refine ⟨fun h => (by rw [h] at hr; cases hr), fun j hj => ?_⟩
    by_cases hji : j = i
    · subst hji; exact ⟨oi, v, hi, hy, K⟩
    · obtain ⟨oj, u, hoj, h1, h2⟩ := K.2 j (ready_mono hj hji)
      obtain ⟨hjun, oj', hoj', hall⟩ := mem_ready.1 hj
      rw [hoj] at hoj'
      cases hoj'
      have hnot : ∀ e ∈ oj.after, Region.binds .any e = true → e.on ≠ i := fun e he hb heq => by
        have h1 := hall e he hb
        have h0 := (mem_ready.1 hr).1
        rw [heq] at h1
        rcases Nat.lt_or_ge i listed.size with h' | h'
        · simp [h'] at h0 h1; rw [h0] at h1; cases h1
        · simp [Array.getElem?_eq_none h'] at h1
      obtain ⟨k1, k2, k3⟩ := Oper.apart_spec (hfree j oj hoj hji hjun hnot)
      refine ⟨oj, u, hoj, opOK_unput k1 h1, ih _ _ ?_ (ready_mono hr (Ne.symm hji)) (opOK_put k3 hy) ?_⟩
      · intro k ok hk hki hun hno
        refine hfree k ok hk hki ?_ hno
        by_cases hjk : j = k
        · subst hjk; exact hjun
        · rw [getD_set_ne true hjk] at hun; exact hun
      · rw [Array.setIfInBounds_comm _ _ hji, ← put_comm k2]
        exact h2
theorem dAny_lex {Q : Tm → Prop} : ∀ (l : List Oper) (k : Nat) (listed : Array Bool) (T : Tm), (∀ j, l[j]? = ops[k + j]?) →
    Region.lexFrom .any ops l.length k listed = true → dW P cf H N ops Q l T → dAny P cf H N ops Q l.length listed T
  | [], _, _, _, _, hB, h => ⟨by simpa [Region.lexFrom] using hB, h⟩
  | o :: l, k, listed, T, hl, hB, h => by
    have h0 : ops[k]? = some o := by simpa using (hl 0).symm
    simp only [List.length_cons, Region.lexFrom, Bool.and_eq_true] at hB
    obtain ⟨⟨hr, hf⟩, hB'⟩ := hB
    obtain ⟨v, hy, hK⟩ := h
    exact dAny_first h0 l.length listed T (Region.free_spec h0 hf) (by simpa using hr) hy
      (dAny_lex l (k + 1) _ _ (fun j => by have := hl (j + 1); simpa [Nat.add_assoc, Nat.add_comm 1 j] using this) hB' hK)
end

section
variable {P : Program} {cf : Cfg} {M0 : Mem} {w0 : World} {N : Nat} {φ : Nat → Value} {M : Mem} {T : Tm} {H : List Ob} {a : Act} {w : World} {ops : Array Oper}
theorem wpAny_of_dAny {Q : Tm → Prop} {Q' : Exit → Act → World → Prop} (hQ : ∀ M' T' a' w', RA P cf M0 w0 N φ M' ⟨T', H⟩ a' w' → Q T' → Q' .normal a' w') : ∀ (fuel : Nat) (listed : Array Bool) (M : Mem) (T : Tm) (a : Act) (w : World),
    RA P cf M0 w0 N φ M ⟨T, H⟩ a w → dAny P cf H N ops Q fuel listed T → wpAny P .any ops Q' fuel listed a w
  | 0, _, _, _, _, _, hR, h => ⟨h.1, hQ _ _ _ _ hR h.2⟩
  | fuel + 1, _, _, _, _, _, hR, h => ⟨fun h0 => hQ _ _ _ _ hR (h.1 h0), fun i hi => by
    obtain ⟨o, v, ho, h1, h2⟩ := h.2 i hi
    have := op_step (Q := Q') hR h1 (K := wpAny P .any ops Q' fuel _) (fun M' a' w' _ hR' => wpAny_of_dAny hQ fuel _ M' _ a' w' hR' h2)
    unfold wpOp
    rw [ho]
    simp only
    split
    · rename_i hw
      rw [if_pos hw] at this
      exact .inl this
    · rename_i hw
      rw [if_neg hw] at this
      exact this⟩
theorem wpList_of_dW {Q : Tm → Prop} {Q' : Exit → Act → World → Prop} (hQ : ∀ M' T' a' w', RA P cf M0 w0 N φ M' ⟨T', H⟩ a' w' → Q T' → Q' .normal a' w') : ∀ (l : List Oper) (M : Mem) (T : Tm) (a : Act) (w : World),
    RA P cf M0 w0 N φ M ⟨T, H⟩ a w → dW P cf H N ops Q l T → wpList P ops Q' l a w
  | [], _, _, _, _, hR, h => hQ _ _ _ _ hR h
  | o :: l, _, _, _, _, hR, ⟨v, h1, h2⟩ => by
    have := op_step (Q := Q') hR h1 (K := wpList P ops Q' l) (fun M' a' w' _ hR' => wpList_of_dW hQ l M' _ a' w' hR' h2)
    unfold wpList
    split
    · rename_i hw
      rw [if_pos hw] at this
      exact .inl this
    · rename_i hw
      rw [if_neg hw] at this
      exact this
end

/-! ### code -/
def awp (P : Program) (cf : Cfg) (M0 : Mem) (w0 : World) (N : Nat) (c : Code) (Q : Exit → St → Prop) (X : St) : Prop :=
  ∀ a w, R P cf M0 w0 N X a w → c.wp P (fun e a' w' => ∃ X', Q e X' ∧ R P cf M0 w0 N X' a' w') a w
def thenQ (next : St → Prop) (Q : Exit → St → Prop) : Exit → St → Prop
  | .normal, X => next X
  | e, X => Q e X
def inBlockQ (id : Nat) (Q : Exit → St → Prop) : Exit → St → Prop
  | .exit id', X => if id' = id then Q .normal X else Q (.exit id') X
  | e, X => Q e X
section
variable {P : Program} {cf : Cfg} {M0 : Mem} {w0 : World} {N : Nat} {Q : Exit → St → Prop} {X : St}
theorem awp_seq {x y : Code} (h : awp P cf M0 w0 N x (thenQ (awp P cf M0 w0 N y Q) Q) X) : awp P cf M0 w0 N (.seq x y) Q X := fun a w hR => by
  refine wp_seq (Code.wp_mono (fun e a' w' hq => ?_) (h a w hR))
  obtain ⟨X', h1, h2⟩ := hq
  cases e <;> first | exact h1 a' w' h2 | exact ⟨X', h1, h2⟩
theorem awp_block {id : Nat} {c : Code} (h : awp P cf M0 w0 N c (inBlockQ id Q) X) : awp P cf M0 w0 N (.block id c) Q X := fun a w hR => by
  refine wp_block (Code.wp_mono (fun e a' w' hq => ?_) (h a w hR))
  obtain ⟨X', h1, h2⟩ := hq
  cases e with
  | exit id' =>
    simp only [Exit.inBlock, inBlockQ] at h1 ⊢
    split
    · rename_i e; rw [if_pos e] at h1; exact ⟨X', h1, h2⟩
    · rename_i e; rw [if_neg e] at h1; exact ⟨X', h1, h2⟩
  | _ => exact ⟨X', h1, h2⟩
theorem awp_skip (h : Q .normal X) : awp P cf M0 w0 N .skip Q X := fun _ _ hR => wp_skip ⟨X, h, hR⟩
theorem awp_ret (h : Q .ret X) : awp P cf M0 w0 N .ret Q X := fun _ _ hR => wp_ret ⟨X, h, hR⟩
theorem awp_exit {id : Nat} (h : Q (.exit id) X) : awp P cf M0 w0 N (.exit id) Q X := fun _ _ hR => wp_exit ⟨X, h, hR⟩
theorem awp_cond {c : Operand} {x y : Code} {b : Bool} (hc : look X.T c = (true, .bool b)) (ht : b = true → awp P cf M0 w0 N x Q X) (hf : b = false → awp P cf M0 w0 N y Q X) : awp P cf M0 w0 N (.cond c x y) Q X := fun a w hR => by
  have hb : a.eval c = .bool b := by
    obtain ⟨φ, M, h⟩ := hR
    have := h.ctx.t c (by rw [hc])
    rw [hc] at this
    exact this
  exact wp_cond_split hb (fun e => ht e a w hR) (fun e => hf e a w hR)
theorem awp_region {id : Nat} {l : List Oper} (h : dW P cf X.H N l.toArray (fun T => Q .normal ⟨T, X.H⟩) l X.T) : awp P cf M0 w0 N (.region id l.toArray false) Q X := fun a w ⟨φ, M, hR⟩ =>
  wp_region_lit (wpList_of_dW (φ := φ) (H := X.H) (fun M' T' a' w' hR' hQ => ⟨_, hQ, φ, M', hR'⟩) l M X.T a w hR h)
theorem awp_draw {id : Nat} {l : List Oper} (hm : P.follows .mixedOrders = true) (hB : Region.lexB .any l.toArray = true) (h : dW P cf X.H N l.toArray (fun T => Q .normal ⟨T, X.H⟩) l X.T) : awp P cf M0 w0 N (.region id l.toArray true) Q X := fun a w ⟨φ, M, hR⟩ => by
  simp only [Region.lexB, Bool.and_eq_true] at hB
  refine wp_region_any hm (wpAny_of_dAny (φ := φ) (H := X.H) (fun M' T' a' w' hR' hQ => ⟨_, hQ, φ, M', hR'⟩) _ _ M X.T a _ hR.draw ?_)
  have := dAny_lex (P := P) (cf := cf) (H := X.H) (N := N) l 0 (Array.replicate l.toArray.size false) X.T (by simp) (by simpa using hB.2) h
  simpa using this
/-- weaker is enough -/
def St.le (X X' : St) : Prop := (∀ t, X'.T t = X.T t ∨ X'.T t = (true, .und)) ∧ ∃ n, X'.H = X.H.take n ∧ (∀ t, (X'.T t).2.lt X'.H.length) ∧ ∀ (i : Nat) (o : Ob), X'.H[i]? = some o → o.lt X'.H.length
theorem R.le {X' : St} {a : Act} {w : World} (h : R P cf M0 w0 N X a w) (hl : X.le X') : R P cf M0 w0 N X' a w := by
  obtain ⟨φ, M, h⟩ := h
  obtain ⟨h1, n, h2, h3, h4⟩ := hl
  have hs : ∀ (i : Nat) (o : Ob), X'.H[i]? = some o → X.H[i]? = some o := fun i o hi => by
    rw [h2, List.getElem?_take] at hi
    split at hi
    · exact hi
    · cases hi
  refine ⟨φ, M, h.cf, h.le, h.new, ⟨h.hi.mem, fun i o hi => h.hi.ob i o (hs i o hi), fun i o g hi => h.hi.off i o g (hs i o hi), fun i j o p g hi hl hj => h.hi.inj i j o p g (hs i o hi) hl (hs j p hj), h4⟩, fun t => ?_, h3, fun i o g hi => h.own i o g (hs i o hi), h.size, h.below, h.defers⟩
  rcases h1 t with e | e
  · rw [e]; exact h.t t
  · rw [e]; exact ⟨fun _ => trivial, fun hf => by cases hf⟩
theorem awp_le {c : Code} {X' : St} (hl : X.le X') (h : awp P cf M0 w0 N c Q X') : awp P cf M0 w0 N c Q X := fun a w hR => h a w (hR.le hl)
theorem awp_mono {c : Code} {Q' : Exit → St → Prop} (hq : ∀ e X, Q e X → Q' e X) (h : awp P cf M0 w0 N c Q X) : awp P cf M0 w0 N c Q' X := fun a w hR => Code.wp_mono (fun e a' w' ⟨X', h1, h2⟩ => ⟨X', hq _ _ h1, h2⟩) (h a w hR)
/-- a loop: at the head of round k the state is S k; there are rounds to go -/
theorem awp_loop {c : Code} {α : Type} (S : α → St) (I : α → Prop) (μ : α → Nat) (k0 : α) (h0 : X.le (S k0)) (hI : I k0)
    (hr : ∀ k, I k → awp P cf M0 w0 N c (thenQ (fun X' => ∃ k', X'.le (S k') ∧ I k' ∧ μ k' < μ k) Q) (S k)) : awp P cf M0 w0 N (.loop c) Q X := fun a w hR => by
  have key : ∀ n k a w, μ k < n → I k → R P cf M0 w0 N (S k) a w → Code.rounds P c (fun e a' w' => ∃ X', Q e X' ∧ R P cf M0 w0 N X' a' w') n a w := by
    intro n
    induction n with
    | zero => intro k a w hn; omega
    | succ n ih =>
      intro k a w hn hk hR
      rw [rounds_succ]
      refine Code.wp_mono (fun e a' w' hq => ?_) (hr k hk a w hR)
      obtain ⟨X', h1, h2⟩ := hq
      cases e with
      | normal =>
        obtain ⟨k', h3, h4, h5⟩ := h1
        exact ih k' a' w' (by omega) h4 (h2.le h3)
      | _ => exact ⟨X', h1, h2⟩
  exact wp_loop_rounds (μ k0 + 1) (key _ k0 a w (Nat.lt_succ_self _) hI (hR.le h0))
end
end Am
end Go.Proofs.Ytoaecbdpkmeenaa
