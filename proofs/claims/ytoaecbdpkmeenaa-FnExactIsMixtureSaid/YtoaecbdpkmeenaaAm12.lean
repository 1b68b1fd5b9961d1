/- What a function comes to, out of its body on the abstract machine. Conditions: those that each names. -/
import Derived.Test.YtoaecbdpkmeenaaAm11
namespace Go.Proofs.Ytoaecbdpkmeenaa
namespace Am
open Go Go.RowKit

def params : Nat → List AV → List (Nat × Bool × AV)
  | _, [] => []
  | i, v :: vs => (i, true, v) :: params (i + 1) vs
theorem tab_params : ∀ (vs : List AV) (i t : Nat), (∃ j, ∃ h : j < vs.length, t = i + j ∧ tab (params i vs) t = (true, vs[j])) ∨ tab (params i vs) t = (true, .und) ∧ (t < i ∨ i + vs.length ≤ t)
  | [], i, t => .inr ⟨rfl, by simp; omega⟩
  | v :: vs, i, t => by
    by_cases h : t = i
    · subst h
      exact .inl ⟨0, by simp, rfl, by simp [params, tab]⟩
    · have hb : Nat.beq t i = false := by rw [Bool.eq_false_iff]; exact fun k => h (Nat.eq_of_beq_eq_true k)
      rcases tab_params vs (i + 1) t with ⟨j, hj, h1, h2⟩ | ⟨h1, h2⟩
      · exact .inl ⟨j + 1, by simpa using hj, by omega, by simp only [params, tab, hb, cond_false, h2, List.getElem_cons_succ]⟩
      · exact .inr ⟨by simp only [params, tab, hb, cond_false, h1], by simp; omega⟩
/-- what a result's variable holds -/
def resOK (cf : Cfg) (X : St) : ResultVar → TV → Prop
  | .tmp t, v => X.T t = (true, .tv v)
  | .cell p ty, v => (qev cf X.H X.T true (.load ty (.tmp p))).1 ∧ (qev cf X.H X.T true (.load ty (.tmp p))).2 = .tv v
def resAll (cf : Cfg) (X : St) : List ResultVar → List TV → Prop
  | [], [] => True
  | x :: xs, v :: vs => resOK cf X x v ∧ resAll cf X xs vs
  | _, _ => False
/-- whatever x stands for r stands for -/
def Imp (x r : AV) : Prop := ∀ M u, x.rel noφ M u → r.rel noφ M u
theorem Imp.refl (x : AV) : Imp x x := fun _ _ h => h
theorem Imp.eq {x r : AV} (h : x = r) : Imp x r := h ▸ Imp.refl x
def retImm (cf : Cfg) (X : St) (xs : List ResultVar) (r : AV) : Prop := match xs with
  | [x] => ∃ v, resOK cf X x v ∧ (AV.tv v).free = true ∧ Imp (.tv v) r
  | _ => ∃ vs, resAll cf X xs vs ∧ (AV.tup vs).free = true ∧ Imp (.tup vs) r
def retOwn (X : St) (xs : List ResultVar) (e : Nat) (d : Cn) : Prop := match xs with
  | [.tmp t] => ∃ i, X.T t = (true, .tv (.one (.own i))) ∧ X.H[i]? = some (.row e d)
  | _ => False
def ends (e : Exit) (p : Prop) : Prop := match e with
  | .normal => p
  | .ret => p
  | _ => False
section
variable {P : Program} {cf : Cfg} {M0 : Mem} {w0 : World} {N : Nat} {φ : Nat → Value} {M : Mem} {X : St} {a : Act} {w : World}
/-- a result's value -/
def rvRun (tmps : Array Value) (x : ResultVar) : Sem Value := match x with
  | .tmp t => pure (tmps.getD t undef)
  | .cell a t => do loadVar t (← asAddr (tmps.getD a undef))
theorem res_run (h : RA P cf M0 w0 N φ M X a w) {x : ResultVar} {v : TV} (hr : resOK cf X x v) : ∃ u, (rvRun a.tmps x).run P w = .ok u w ∧ v.rel φ M u := by
  cases x with
  | tmp t =>
    refine ⟨_, rfl, ?_⟩
    have := (h.t t).1 (by rw [show X.T t = _ from hr])
    rw [show X.T t = _ from hr] at this
    exact this
  | cell p t =>
    obtain ⟨h1, h2⟩ := hr
    obtain ⟨u, h3, h4⟩ := q_load (o := { dst := none, op := .load t (.tmp p), type := 0, pos := "", after := #[], guard := none }) h.ctx rfl h1
    rw [h2] at h4
    refine ⟨u, ?_, h4⟩
    have hev : a.eval (.tmp p) = a.tmps.getD p undef := rfl
    simp only [execOp, hev, Instr.loadAt, Sem.run_bind] at h3
    simp only [rvRun, Sem.run_bind]
    generalize a.tmps.getD p undef = q at h3
    cases q with
    | pointer ad =>
      cases ad with
      | none => simp [Instr.sureAddr] at h3
      | some ad =>
        simp only [Instr.sureAddr, asAddr, Sem.run_pure, Result.andThen_ok] at h3 ⊢
        generalize (loadVar t ad).run P w = r at h3
        cases r with
        | ok z w' => simp only [Result.andThen_ok, Result.ok.injEq, Next.value.injEq] at h3; rw [h3.1, h3.2]
        | halt z w' => simp at h3
    | _ => simp [Instr.sureAddr] at h3
theorem all_run (h : RA P cf M0 w0 N φ M X a w) : ∀ {xs : List ResultVar} {vs : List TV}, resAll cf X xs vs → ∃ us, (xs.mapM (rvRun a.tmps)).run P w = .ok us w ∧ TsRel φ M vs us
  | [], [], _ => ⟨[], rfl, rfl, fun j hj => by simp at hj⟩
  | x :: xs, v :: vs, hr => by
    obtain ⟨u, h1, h2⟩ := res_run h hr.1
    obtain ⟨us, h3, h4, h5⟩ := all_run h hr.2
    refine ⟨u :: us, ?_, by simp [h4], fun j hj hj' => ?_⟩
    · rw [List.mapM_cons]
      simp only [Sem.run_bind, h1, Result.andThen_ok, h3, Sem.run_pure]
    · match j with
      | 0 => exact h2
      | j + 1 => exact h5 j (by simpa using hj) (by simpa using hj')
  | [], _ :: _, h => h.elim
  | _ :: _, [], h => h.elim
theorem ret_imm (h : RA P cf M0 w0 N φ M X a w) {fn : Func} {r : AV} (hr : retImm cf X fn.results.toList r) : ∃ u, (results fn a.tmps).run P w = .ok u w ∧ r.rel noφ M u := by
  unfold retImm at hr
  have hm : ∀ us, (fn.results.toList.mapM (rvRun a.tmps)).run P w = .ok us w → (results fn a.tmps).run P w = .ok (if h : us.toArray.size = 1 then us.toArray[0] else .tuple us.toArray) w := fun us hu => by
    have hE : results fn a.tmps = (do let vs ← fn.results.mapM (rvRun a.tmps); pure (if h : vs.size = 1 then vs[0] else .tuple vs)) := rfl
    rw [hE, ← Array.toArray_toList (xs := fn.results), List.mapM_toArray]
    simp only [Sem.run_bind, Sem.run_map, hu, Result.andThen_ok, Sem.run_pure]
  split at hr
  · rename_i x hx
    obtain ⟨v, h1, h2, h3⟩ := hr
    obtain ⟨us, h4, h5, h6⟩ := all_run (xs := [x]) (vs := [v]) h ⟨h1, trivial⟩
    match us, h5 with
    | [u], _ =>
      refine ⟨u, ?_, h3 M u (free_rel (x := .tv v) h2 (h6 0 (by simp) (by simp)))⟩
      rw [hm [u] (by rw [hx]; exact h4)]
      simp
  · rename_i hne
    obtain ⟨vs, h1, h2, h3⟩ := hr
    obtain ⟨us, h4, h5, h6⟩ := all_run h h1
    have hl : ∀ {xs : List ResultVar} {vs : List TV}, resAll cf X xs vs → xs.length = vs.length := fun {xs} => by
      induction xs with
      | nil => intro vs h; cases vs with
        | nil => rfl
        | cons _ _ => exact h.elim
      | cons x xs ih => intro vs h; cases vs with
        | nil => exact h.elim
        | cons v vs => simp [ih h.2]
    have hus : us.length ≠ 1 := fun e => by
      have h7 := hl h1
      match hxs : fn.results.toList with
      | [] => rw [hxs] at h7; simp at h7; omega
      | [x] => exact hne x hxs
      | _ :: _ :: _ => rw [hxs] at h7; simp at h7; omega
    refine ⟨.tuple us.toArray, ?_, h3 M _ (free_rel (x := .tup vs) h2 ⟨us, rfl, h5, h6⟩)⟩
    rw [hm us h4]
    simp [hus]
end
section
variable {P : Program} {cf : Cfg} {f N : Nat} {fn : Func} {c : Code} {args : List AV}
theorem start (hcf : CfgOK P cf) (hN : fn.ntmps = N) (hfree : args.all AV.free = true) (hlen : args.length ≤ N) {M : Mem} {w : World} {us : List Value} (hm : ∀ ad v, M ad = some v → w.cell? ad = some v) (ha : ArgsRel M args us) :
    RA P cf M w N noφ M ⟨tab (params 0 args), []⟩ { tmps := us.toArray ++ Array.replicate (fn.ntmps - us.toArray.size) undef, defers := [] } w := by
  have hlen' : us.length ≤ N := by rw [ha.1]; exact hlen
  refine ⟨hcf, Mem.le_refl _, fun _ _ e => .inl e, ⟨hm, fun i o hi => by simp at hi, fun i o g hi => by simp at hi, fun i j o p g hi => by simp at hi, fun i o hi => by simp at hi⟩, fun t => ?_, fun t => ?_, fun i o g hi => by simp at hi, by simp [hN]; omega, Below.refl _ _, rfl⟩
  · show (((tab (params 0 args)) t).1 = true → AV.rel noφ M ((tab (params 0 args)) t).2 ((us.toArray ++ Array.replicate (fn.ntmps - us.toArray.size) undef).getD t undef)) ∧ (((tab (params 0 args)) t).1 = false → (us.toArray ++ Array.replicate (fn.ntmps - us.toArray.size) undef).getD t undef = undef)
    rcases tab_params args 0 t with ⟨j, hj, h1, h2⟩ | ⟨h1, h2⟩
    · rw [h2]
      refine ⟨fun _ => ?_, fun hf => by cases hf⟩
      have hj' : j < us.length := by rw [ha.1]; exact hj
      have h3 := ha.2 j hj hj'
      have e : (us.toArray ++ Array.replicate (fn.ntmps - us.toArray.size) undef).getD t undef = us[j] := by
        rw [h1, Nat.zero_add, Array.getD_eq_getD_getElem?, Array.getElem?_append_left (by simpa using hj')]
        simp [hj']
      rw [e]
      exact h3
    · rw [h1]
      exact ⟨fun _ => trivial, fun hf => by cases hf⟩
  · show ((tab (params 0 args)) t).2.lt _
    rcases tab_params args 0 t with ⟨j, hj, h1, h2⟩ | ⟨h1, h2⟩
    · rw [h2]
      exact free_lt (List.all_eq_true.1 hfree _ (List.getElem_mem hj)) _
    · rw [h1]
      exact und_lt
theorem spec_imm (hf : P.funcs[f]? = some fn) (hb : fn.body = some c) (hN : fn.ntmps = N) (hcf : CfgOK P cf) (hent : ∀ (av : Array Value) (W : World), (callFunc f av).run P W = .ok (.enter f av) W) (hfree : args.all AV.free = true) (hlen : args.length ≤ N) {r : AV}
    (h : ∀ M0 w0, awp P cf M0 w0 N c (fun e X => ends e (retImm cf X fn.results.toList r)) ⟨tab (params 0 args), []⟩) : Does P f args (.imm r) := by
  refine ⟨hent, fun M w us hm ha => calls_of_wp hf hb ?_⟩
  refine Code.wp_mono (fun e a' w' hq => ?_) (h M w _ w ⟨noφ, M, start (fn := fn) hcf hN hfree hlen hm ha⟩)
  obtain ⟨X, h1, φ, M', hR⟩ := hq
  have key : retImm cf X fn.results.toList r → a'.defers = [] ∧ ∃ v, (results fn a'.tmps).run P w' = .ok v w' ∧ ∃ u M', Ending.returned v = .returned u ∧ M.le M' ∧ (∀ ad v, M' ad = some v → w'.cell? ad = some v ∧ (M ad = some v ∨ w.heap.size ≤ ad.block)) ∧ (Res.imm r).rel M' w w' u ∧ Below w.heap.size w w' := fun hr => by
    obtain ⟨u, h2, h3⟩ := ret_imm hR hr
    exact ⟨hR.defers, u, h2, u, M', rfl, hR.le, fun ad v e => ⟨hR.hi.mem ad v e, hR.new ad v e⟩, h3, hR.below⟩
  cases e with
  | normal => exact key h1
  | ret => exact key h1
  | _ => exact h1.elim
theorem spec_own (hf : P.funcs[f]? = some fn) (hb : fn.body = some c) (hN : fn.ntmps = N) (hcf : CfgOK P cf) (hent : ∀ (av : Array Value) (W : World), (callFunc f av).run P W = .ok (.enter f av) W) (hfree : args.all AV.free = true) (hlen : args.length ≤ N) {e0 : Nat} {d : Cn}
    (h : ∀ M0 w0, awp P cf M0 w0 N c (fun e X => ends e (retOwn X fn.results.toList e0 d)) ⟨tab (params 0 args), []⟩) : Does P f args (.own e0 d) := by
  refine ⟨hent, fun M w us hm ha => calls_of_wp hf hb ?_⟩
  refine Code.wp_mono (fun e a' w' hq => ?_) (h M w _ w ⟨noφ, M, start (fn := fn) hcf hN hfree hlen hm ha⟩)
  obtain ⟨X, h1, φ, M', hR⟩ := hq
  have key : retOwn X fn.results.toList e0 d → a'.defers = [] ∧ ∃ v, (results fn a'.tmps).run P w' = .ok v w' ∧ ∃ u M', Ending.returned v = .returned u ∧ M.le M' ∧ (∀ ad v, M' ad = some v → w'.cell? ad = some v ∧ (M ad = some v ∨ w.heap.size ≤ ad.block)) ∧ (Res.own e0 d).rel M' w w' u ∧ Below w.heap.size w w' := fun hr => by
    unfold retOwn at hr
    split at hr
    · rename_i t hx
      obtain ⟨i, h2, h3⟩ := hr
      have hu := (hR.t t).1 (by rw [h2])
      rw [h2] at hu
      have hu' : a'.tmps.getD t undef = φ i := hu
      obtain ⟨vs, h4, h5⟩ := hR.hi.ob i _ h3
      have hres : fn.results = #[.tmp t] := Array.toList_inj.1 hx
      refine ⟨hR.defers, φ i, ?_, φ i, M', rfl, hR.le, fun ad v e => ⟨hR.hi.mem ad v e, hR.new ad v e⟩, ⟨vs, ⟨h4.1, ?_⟩, h5, fun ad v e hb => hR.hi.off i _ ad.block h3 trivial hb ad v e rfl⟩, hR.below⟩
      · rw [results_tmp hres, hu']
      · rcases h4.2 with h6 | ⟨g, cap, cur, h6, _, h7⟩
        · exact .inl h6
        · exact .inr ⟨g, cap, cur, h6, hR.own i _ g h3 trivial (by rw [h6]; rfl), h7⟩
    · exact hr.elim
  cases e with
  | normal => exact key h1
  | ret => exact key h1
  | _ => exact h1.elim
end

/-! ### rules by which the machine is run -/
theorem tab_ap (s : Nat) (v : Bool × AV) (L : List (Nat × Bool × AV)) (t : Nat) : tab ((s, v) :: L) t = if t = s then v else tab L t := by
  show (bif Nat.beq t s then v else tab L t) = _
  by_cases h : t = s
  · subst h; simp
  · have : Nat.beq t s = false := by rw [Bool.eq_false_iff]; exact fun k => h (Nat.eq_of_beq_eq_true k)
    rw [this, if_neg h]; rfl
theorem tab_nil (t : Nat) : tab [] t = (true, .und) := rfl
theorem look_tmp (T : Tm) (t : Nat) : look T (.tmp t) = T t := rfl
theorem look_const (T : Tm) (v : Value) : look T (.const v) = (true, .val v) := rfl
theorem look_func (T : Tm) (f : Nat) : look T (.func f) = (true, .clo f []) := rfl
theorem blt_lit {m n : Nat} : (Nat.blt m n = true) = (m < n) := by simp
theorem and_eqq (b c : Bool) : (b && (c == true)) = (b && c) := by cases c <;> rfl
theorem and_eqf (b c : Bool) : (b && (c == false)) = (b && !c) := by cases c <;> rfl
end Am
end Go.Proofs.Ytoaecbdpkmeenaa
