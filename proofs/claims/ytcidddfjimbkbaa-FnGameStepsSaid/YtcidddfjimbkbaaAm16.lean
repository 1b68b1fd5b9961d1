/- A region in whatever order that reads, and holds one call that hands memory back. Conditions: those that each names. -/
import Derived.Test.YtcidddfjimbkbaaMC
set_option linter.all false
set_option linter.unusedSimpArgs false
set_option linter.unusedVariables false
namespace Go.Proofs.Ytcidddfjimbkbaa
namespace Am
open Go Go.RowKit

section
variable {P : Program} {cf : Cfg} {b : Base} {N : Nat} {ops : Array Oper} {H0 : List Ob} {ci : Nat} {r : AV} {Hout : List Ob}
def okC (P : Program) (cf : Cfg) (N : Nat) (ops : Array Oper) (H0 : List Ob) (ci : Nat) (r : AV) (Hout : List Ob) (i : Nat) (o : Oper) (T : Tm) (v : Bool × AV) : Prop :=
  (i ≠ ci ∧ offOp H0.length [] H0 T o.op = true ∧ opOK P cf H0 N ops o T v) ∨
  (i = ci ∧ o.guard = none ∧ o.dst.all (Nat.blt · N) = true ∧ v = (true, r.map (Lf.ren (renN [] H0.length))) ∧ ∃ cc, o.op = .call cc ∧ callB P H0 T cc r Hout)
theorem okC_cong : okCong ops (okC P cf N ops H0 ci r Hout) := fun i o T T' v h hg k => by
  rcases k with ⟨h1, h2, h3⟩ | ⟨h1, h2, h3, h4, cc, h5, h6⟩
  · exact .inl ⟨h1, by rw [offOp_congr h]; exact h2, opOK_congr h hg h3⟩
  · rw [h5] at h
    exact .inr ⟨h1, h2, h3, h4, cc, h5, callB_congr h h6⟩
/-- the memory ahead of the call, and behind it -/
def Hcl (H0 Hout : List Ob) (d : Bool) : List Ob := bif d then H0 ++ Hout.map (Ob.map (Lf.ren (renN [] H0.length))) else H0
theorem agree_cl {d : Bool} : agree H0.length [] H0 (Hcl H0 Hout d) := by
  have h0 : agree H0.length [] H0 H0 := ⟨Nat.le_refl _, Nat.le_refl _, fun _ _ => rfl⟩
  cases d
  · exact h0
  · exact agree_app h0 _
theorem wpAny_of_C {Qf : Tm → Prop} {Q' : Exit → Act → World → Prop} (hci : ci < ops.size)
    (hQ : ∀ φ β M T a w, RA P cf b N φ β M ⟨T, Hcl H0 Hout true⟩ a w → Qf T → Q' .normal a w) : ∀ (fuel : Nat) (listed : Array Bool) (φ : Nat → Value) (β : Nat → Nat → Prop) (M : Mem) (T : Tm) (a : Act) (w : World), listed.size = ops.size →
    RA P cf b N φ β M ⟨T, Hcl H0 Hout (listed.getD ci false)⟩ a w →
    dAnyI ops (okC P cf N ops H0 ci r Hout) (fun listed T => (∀ j, j < ops.size → listed.getD j false = true) ∧ Qf T) fuel listed T → wpAny P .any ops Q' fuel listed a w := by
  have hend : ∀ (listed : Array Bool) (φ : Nat → Value) (β : Nat → Nat → Prop) (M : Mem) (T : Tm) (a : Act) (w : World), RA P cf b N φ β M ⟨T, Hcl H0 Hout (listed.getD ci false)⟩ a w → ((∀ j, j < ops.size → listed.getD j false = true) ∧ Qf T) → Q' .normal a w := fun listed φ β M T a w hR ⟨h1, h2⟩ => by
    rw [h1 ci hci] at hR
    exact hQ _ _ _ _ _ _ hR h2
  intro fuel
  induction fuel with
  | zero =>
    intro listed φ β M T a w hsz hR h
    exact ⟨h.1, hend listed φ β M T a w hR h.2⟩
  | succ fuel ih =>
    intro listed φ β M T a w hsz hR h
    refine ⟨fun h0 => hend listed φ β M T a w hR (h.1 h0), fun i hi => ?_⟩
    obtain ⟨o, v, ho, h1, h2⟩ := h.2 i hi
    have hiu := (mem_ready.1 hi).1
    have hil : i < listed.size := by rw [hsz]; exact (Array.getElem?_eq_some_iff.1 ho).1
    have hiu' : listed.getD i false = false := by
      simp [hil] at hiu ⊢
      exact hiu
    have hself : (listed.setIfInBounds i true).getD i false = true := by simp [hil]
    have hoth : ∀ j, j ≠ i → (listed.setIfInBounds i true).getD j false = listed.getD j false := fun j hj => getD_set_ne false (fun e' => hj e'.symm)
    unfold wpOp
    rw [ho]
    simp only
    rcases h1 with ⟨k1, k3, k5⟩ | ⟨rfl, k2, k3, k4, cc, k5, k6⟩
    · have hok' : opOK P cf (Hcl H0 Hout (listed.getD ci false)) N ops o T v := opOK_heap agree_cl k3 k5
      have := op_step (Q := Q') hR hok' (K := wpAny P .any ops Q' fuel _) (fun M' a' w' _ hR' => ih (listed.setIfInBounds i true) φ β M' _ a' w' (by simp [hsz]) (by rw [hoth ci (fun e => k1 e.symm)]; exact hR') h2)
      split
      · rename_i hw
        rw [if_pos hw] at this
        exact .inl this
      · rename_i hw
        rw [if_neg hw] at this
        exact this
    · have hw : Region.wanted o (yielded ops a.tmps) = true := by simp [Region.wanted, k2]
      rw [if_pos hw]
      left
      rw [hiu'] at hR
      subst k4
      refine co_callB hR k3 k5 k6 fun φ' β' a' w' hR' => ih _ φ' β' M _ a' w' (by simp [hsz]) ?_ h2
      rw [hself]
      exact hR'
/-- the call's function and arguments, as a contract names them -/
def calC (f : Nat) (vs : List AV) (H0 : List Ob) (T : Tm) (cc : Call) : Prop := ∃ xs, calleeOf T cc = some (true, f, xs) ∧ (cc.args.toList.all fun x => (look T x).1) = true ∧ argsOf H0 T cc xs = some vs
def readC (cf : Cfg) (N : Nat) (ops : Array Oper) (H0 : List Ob) (o : Oper) (T : Tm) (K : Tm → Prop) : Prop :=
  offOp H0.length [] H0 T o.op = true ∧ (guardOf ops o T).1 ∧ (qev cf H0 T (guardOf ops o T).2 o.op).1 ∧ K (T.put o.dst ((guardOf ops o T).2, (qev cf H0 T (guardOf ops o T).2 o.op).2))
/-- the region's operations in the text's order -/
def dC (P : Program) (cf : Cfg) (N : Nat) (ops : Array Oper) (H0 : List Ob) (ci f : Nat) (vs : List AV) (r : AV) (Q : Tm → Prop) : Nat → List Oper → Tm → Prop
  | _, [], T => Q T
  | k, o :: l, T => o.dst.all (Nat.blt · N) = true ∧ (bif Nat.beq k ci then (o.guard = none ∧ match o.op with
    | .call c => calC f vs H0 T c ∧ dC P cf N ops H0 ci f vs r Q (k + 1) l (T.put o.dst (true, r.map (Lf.ren (renN [] H0.length))))
    | _ => False)
    else (match o.op with
    | .call c => (match c.callee with
      | .value _ => offOp H0.length [] H0 T o.op = true ∧ (guardOf ops o T).1 ∧ ∃ r', callOK P H0 T (guardOf ops o T).2 c r' ∧ dC P cf N ops H0 ci f vs r Q (k + 1) l (T.put o.dst ((guardOf ops o T).2, r'))
      | _ => readC cf N ops H0 o T fun T' => dC P cf N ops H0 ci f vs r Q (k + 1) l T')
    | _ => readC cf N ops H0 o T fun T' => dC P cf N ops H0 ci f vs r Q (k + 1) l T'))
theorem dC_run {f : Nat} {vs : List AV} {Q : Tm → Prop} (h : DoesH P f vs [] [] r Hout) (h4 : r.mf = true) (h5 : Hout.all Ob.mf = true) (h6 : vs.all AV.free = true) : ∀ (l : List Oper) (k : Nat) (T : Tm), dC P cf N ops H0 ci f vs r Q k l T → dWI (okC P cf N ops H0 ci r Hout) Q k l T
  | [], k, T, hd => hd
  | o :: l, k, T, hd => by
    obtain ⟨h1, hd⟩ := hd
    have hrd : k ≠ ci → readC cf N ops H0 o T (fun T' => dC P cf N ops H0 ci f vs r Q (k + 1) l T') → dWI (okC P cf N ops H0 ci r Hout) Q k (o :: l) T := fun hk hr =>
      ⟨_, .inl ⟨hk, hr.1, h1, hr.2.1, rfl, .inr ⟨hr.2.2.1, rfl⟩⟩, dC_run h h4 h5 h6 l (k + 1) _ hr.2.2.2⟩
    cases e : Nat.beq k ci with
    | true =>
      rw [e] at hd
      simp only [cond_true] at hd
      obtain ⟨h2, hd⟩ := hd
      split at hd
      · rename_i c ho
        obtain ⟨⟨xs, k1, k2, k3⟩, hd⟩ := hd
        exact ⟨_, .inr ⟨Nat.eq_of_beq_eq_true e, h2, h1, rfl, c, ho, f, xs, vs, k1, List.all_eq_true.1 k2, k3, h, h4, h5, h6⟩, dC_run h h4 h5 h6 l (k + 1) _ hd⟩
      · exact hd.elim
    | false =>
      have hk : k ≠ ci := fun e' => by
        subst e'
        rw [Nat.beq_refl] at e
        cases e
      rw [e] at hd
      simp only [cond_false] at hd
      split at hd
      · rename_i c ho
        split at hd
        · obtain ⟨k1, k2, r', k3, hd⟩ := hd
          exact ⟨_, .inl ⟨hk, k1, h1, k2, rfl, .inl ⟨_, ho, k3⟩⟩, dC_run h h4 h5 h6 l (k + 1) _ hd⟩
        · exact hrd hk hd
      · exact hrd hk hd
theorem awp_anyC {id : Nat} {l : List Oper} {X : St} {Q : Exit → St → Prop} (ci : Nat) {f : Nat} {vs : List AV} {r : AV} {Hout : List Ob} (hc : DoesH P f vs [] [] r Hout) (h4 : r.mf = true) (h5 : Hout.all Ob.mf = true) (h6 : vs.all AV.free = true) (hm : P.follows .mixedOrders = true) (hB : Region.lexB .any l.toArray = true) (hci : Nat.blt ci l.length = true)
    (h : dC P cf N l.toArray X.H ci f vs r (fun T => Q .normal ⟨T, X.H ++ Hout.map (Ob.map (Lf.ren (renN [] X.H.length)))⟩) 0 l X.T) : awp P cf b N (.region id l.toArray true) Q X := fun a w ⟨φ, β, M, hR⟩ => by
  simp only [Region.lexB, Bool.and_eq_true] at hB
  have hci : ci < l.length := by simpa using hci
  have h7 := dC_run hc h4 h5 h6 l 0 X.T h
  refine wp_region_any hm ?_
  refine wpAny_of_C (P := P) (cf := cf) (b := b) (N := N) (H0 := X.H) (ci := ci) (r := r) (Hout := Hout) (Qf := fun T => Q .normal ⟨T, X.H ++ Hout.map (Ob.map (Lf.ren (renN [] X.H.length)))⟩) (by simpa using hci) (fun φ' β' M' T' a' w' hR' hQ => ⟨_, hQ, φ', β', M', hR'⟩) _ _ φ β M X.T a _ (by simp) (by
    have e : (Array.replicate l.toArray.size false).getD ci false = false := by simp [hci]
    rw [e]
    exact hR.draw) ?_
  have := dAnyI_lex (ops := l.toArray) (ok := okC P cf N l.toArray X.H ci r Hout) okC_cong (Q := fun listed T => (∀ j, j < l.toArray.size → listed.getD j false = true) ∧ Q .normal ⟨T, X.H ++ Hout.map (Ob.map (Lf.ren (renN [] X.H.length)))⟩) (Q0 := fun T => Q .normal ⟨T, X.H ++ Hout.map (Ob.map (Lf.ren (renN [] X.H.length)))⟩) (fun listed T h5 h6 => ⟨h5, h6⟩) l 0 (Array.replicate l.toArray.size false) X.T (by simp) (by simp) (fun j hj => by omega) (by simpa using hB.2) h7
  simpa using this
end
end Am
end Go.Proofs.Ytcidddfjimbkbaa
