/- Literals of slices as operations; all operations of a region in their order; a function's body. Conditions: those that each names. -/
import Derived.Test.YtoaecbdpkmeenaaAm9
namespace Go.Proofs.Ytoaecbdpkmeenaa
namespace Am
open Go Go.RowKit

section
variable {P : Program} {cf : Cfg} {M0 : Mem} {w0 : World} {N : Nat} {φ : Nat → Value} {M : Mem} {T : Tm} {H : List Ob} {a : Act} {w w' : World}
variable {ops : Array Oper} {o : Oper} {Q : Exit → Act → World → Prop} {rest : List Oper}
theorem run_size (hcf : CfgOK P cf) {e : Nat} (hz : cf.sz e ≠ 0) : (sizeOf e).run P w = .ok (cf.sz e) w := by
  obtain ⟨inf, hinf, hsz, -⟩ := hcf.info e hz
  unfold sizeOf
  simp [run_typeInfo _ hinf, hsz]
theorem ef_lit0 (h : RA P cf M0 w0 N φ M ⟨T, H⟩ a w) (hg : o.guard = none) (hd : o.dst.all (Nat.blt · N) = true) {t e : Nat} (ho : o.op = .buildSlice t 0 #[]) (ht : cf.ty t = .slice e) (hz : cf.sz e ≠ 0) {c : Cn} (hc : emp cf e = some c)
    (K : ∀ φ' a' w', RA P cf M0 w0 N φ' M ⟨T.put o.dst (true, .lf (.own H.length)), H ++ [.row e c]⟩ a' w' → wpList P ops Q rest a' w') : wpList P ops Q (o :: rest) a w := by
  have hty := h.cf.ty t
  rw [ht] at hty
  obtain ⟨hc0, hok⟩ := emp_len hc
  refine wpList_plain hg fun K' hK => ?_
  have hrun : (execOp a.eval o).run P w = .ok (.value (.slice (some ⟨w.heap.size, 0, none⟩) 0 0)) (w.alloc (.cells #[] e)) := by
    simp [execOp, ho, Instr.buildSlice, run_underlying (show P.underlying t = _ from hty), run_size h.cf hz, Instr.fill, newRow]
    rw [Array.range_zero', Array.map_empty]
  unfold Oper.wp
  rw [hrun]
  have hR := h.grow (below_alloc w (.cells #[] e)) (v := .slice (some ⟨w.heap.size, 0, none⟩) 0 0) (o := .row e c) (fun g hg' => by simp [blk] at hg'; omega)
    ⟨[], ⟨by rw [hc0]; simp, .inr ⟨w.heap.size, 0, #[], by rw [hc0], Nat.zero_le _, heap_alloc_new w _, by omega, by simp [maxLen], by simp, by simp⟩⟩, hok, by rw [hc0, Nat.zero_mul]; rfl, fun j o hj => by omega⟩ trivial
  exact hK _ _ (K _ _ _ (hR.put (d := o.dst) hd (Mem.le_refl _) hR.new hR.hi hR.below ⟨fun _ => (upd_same _ _ _).symm, fun hf => by cases hf⟩ (AV.lt_one.2 (by simp [Lf.ltB]))))
theorem ef_lit (h : RA P cf M0 w0 N φ M ⟨T, H⟩ a w) (hg : o.guard = none) (hd : o.dst.all (Nat.blt · N) = true) {t n e : Nat} {parts : Array (Nat × Operand)} (ho : o.op = .buildSlice t n parts) (ht : cf.ty t = .slice e) (hz : cf.sz e ≠ 0) (hn0 : 0 < n) (hn : n * cf.sz e ≤ 16777216)
    (hidx : parts.toList.map (·.1) = List.range n) {vs : List TV} (hvs : parts.toList.mapM (fun p => match look T p.2 with | (true, .tv v) => some v | _ => none) = some vs) (hsz : ∀ v ∈ vs, v.cs.length = cf.sz e ∧ v.cs.all (Lf.oneB H) = true) {c : Cn} (hc : litN vs = some c) (hw : c.w = cf.sz e)
    (K : ∀ M' a' w', RA P cf M0 w0 N φ M' ⟨T.put o.dst (true, .sl c), H⟩ a' w' → wpList P ops Q rest a' w') : wpList P ops Q (o :: rest) a w := by
  have hty := h.cf.ty t
  rw [ht] at hty
  obtain ⟨m1, m2⟩ := mapM_some hvs
  have hpl : parts.toList.length = n := by have := congrArg List.length hidx; simpa using this
  have hval : ∀ j (hj : j < vs.length) (hj' : j < parts.toList.length), LsRel φ M vs[j].cs (a.eval parts.toList[j].2).cells.toList := fun j hj hj' => by
    have h1 := m2 j hj' hj
    split at h1
    · rename_i v hv
      cases h1
      have hr := h.ctx.t parts.toList[j].2 (by rw [hv])
      rw [hv] at hr
      exact tv_cells hr fun x e => by
        have h2 := (hsz _ (List.getElem_mem hj)).2
        rw [e] at h2 hr
        exact oneB_lit h.hi (by simpa [TV.cs] using h2) hr
    · cases h1
  let us : List Value := parts.toList.map fun p => a.eval p.2
  have husl : us.length = vs.length := by simp [us, m1]
  have hcs : ∀ u ∈ us, u.cells.toList.length = cf.sz e := fun u hu => by
    obtain ⟨j, hj, rfl⟩ := List.getElem_of_mem hu
    have hj1 : j < vs.length := by omega
    have hj2 : j < parts.toList.length := by omega
    have := (hval j hj1 hj2).1
    rw [(hsz _ (List.getElem_mem hj1)).1] at this
    simpa [us] using this
  obtain ⟨r1, r2⟩ := litN_rel (φ := φ) (M := M) (us := us) hc husl fun j hj hj' => by
    have := hval j hj (by omega)
    simpa [us] using this
  have hflat : ∀ (l : List Value), (∀ u ∈ l, u.cells.toList.length = cf.sz e) → (l.flatMap fun u => u.cells.toList).length = l.length * cf.sz e := fun l hl => by
    induction l with
    | nil => simp
    | cons u l ih =>
      rw [List.flatMap_cons, List.length_append, ih fun v hv => hl v (by simp [hv]), hl u (by simp), List.length_cons, Nat.add_mul, Nat.one_mul, Nat.add_comm]
  let ps : List (Nat × Value) := parts.toList.map fun p => (p.1, a.eval p.2)
  have hps : (ps.flatMap fun q => q.2.cells.toList) = us.flatMap fun u => u.cells.toList := by simp [ps, us, List.flatMap_map]
  have hpsl : ps.length = n := by simp [ps]; simpa using hpl
  have husn : us.length = n := by simp [us]; simpa using hpl
  obtain ⟨inf, hinf, hsz', -, z, hz1, -, hz3⟩ := h.cf.info e hz
  have hzv : (zeroValue e).run P w = .ok z w := by
    unfold zeroValue
    simp [run_typeInfo _ hinf, hz1]
  obtain ⟨r, f1, f2⟩ := fill_seq (place := fun i => some (i * cf.sz e, cf.sz e)) ps 0 ((Array.range (n * cf.sz e)).map (z.cells[· % z.cells.size]!)) (fun j p hj => by
    obtain ⟨hj1, hj2⟩ := List.getElem?_eq_some_iff.1 hj
    have hj3 : j < parts.toList.length := by omega
    have e1 : p.1 = j := by
      have h1 : (parts.toList.map (·.1))[j]? = some p.1 := by
        rw [List.getElem?_map, List.getElem?_eq_getElem hj3]
        rw [← hj2]
        simp [ps]
      rw [hidx, List.getElem?_range (by omega)] at h1
      cases h1
      rfl
    have e2 : p.2.cells.size = cf.sz e := by
      have := hcs (a.eval parts.toList[j].2) (by simp only [us]; exact List.mem_map.2 ⟨_, List.getElem_mem hj3, rfl⟩)
      rw [← hj2]
      simpa [ps] using this
    have e3 : ((ps.take j).flatMap fun q => q.2.cells.toList).length = j * cf.sz e := by
      have : ((ps.take j).flatMap fun q => q.2.cells.toList) = (us.take j).flatMap fun u => u.cells.toList := by simp only [ps, us, ← List.map_take, List.flatMap_map]
      rw [this, hflat _ fun u hu => hcs u (List.mem_of_mem_take hu), List.length_take]
      congr 1
      omega
    rw [e1, e2, e3, Nat.zero_add]) (by rw [hps, hflat us hcs, husn]; simp)
  rw [hps, splice_all _ _ (by rw [hflat us hcs, husn]; simp)] at f2
  refine wpList_plain hg fun K' hK => ?_
  have hrun : (execOp a.eval o).run P w = .ok (.value (.slice (some ⟨w.heap.size, 0, none⟩) n n)) (w.alloc (.cells r e)) := by
    have g1 : ¬ n * cf.sz e > 2 ^ 24 := by omega
    have g2 : n * cf.sz e ≠ 0 := Nat.mul_ne_zero (by omega) hz
    have g3 : (parts.map fun (p : Nat × Operand) => (p.1, a.eval p.2)).toList = ps := by simp [ps]
    have f1' : Instr.fill (fun i => some (i * cf.sz e, cf.sz e)) ((Array.range (n * cf.sz e)).map (z.cells[· % z.cells.size]!)) (parts.map fun (p : Nat × Operand) => (p.1, a.eval p.2)).toList = some r := by rw [g3]; exact f1
    simp only [execOp, ho, Instr.buildSlice, run_underlying (show P.underlying t = _ from hty), run_size h.cf hz, Sem.run_bind, Result.andThen_ok, g1, g2, if_false, hzv, Sem.run_pure, f1', newRow]
    simp
  unfold Oper.wp
  rw [hrun]
  obtain ⟨hm, hR⟩ := h.ext (below_alloc w (.cells r e))
  have hsl : (B.sl c).rel (M.ext w (w.alloc (.cells r e))) (.slice (some ⟨w.heap.size, 0, none⟩) n n) := by
    refine B.rel_sl.2 ⟨_, ⟨some ⟨w.heap.size, 0, none⟩, n, by rw [r2, ← husl, husn], by rw [r2, ← husl, husn]; exact Nat.le_refl _, ?_, fun _ => ⟨_, rfl, fun j hj => ?_⟩⟩, Cn.rel_mono hm r1⟩
    · have : n * 1 ≤ n * cf.sz e := Nat.mul_le_mul_left _ (by omega)
      omega
    · rw [lit_add, Nat.zero_add]
      show (if w.heap.size < w.heap.size then _ else _) = _
      rw [if_neg (Nat.lt_irrefl _), cell_row (heap_alloc_new w _), f2, List.getElem?_eq_getElem hj]
  exact hK _ _ (K _ _ _ (hR.put (d := o.dst) hd (Mem.le_refl _) hR.new hR.hi hR.below ⟨fun _ => hsl, fun hf => by cases hf⟩ (AV.lt_one.2 rfl)))
end

/-! ### all operations of a region, in their order -/
def TV.oneB (H : List Ob) (v : TV) : Bool := v.cs.all (Lf.oneB H)
/-- a content whose cells are plain values -/
def Cn.flat : Cn → Bool
  | .ints _ => true
  | .k _ _ => true
  | _ => false
/-- a call that hands back a slice of the caller's own -/
def callOwn (P : Program) (H : List Ob) (T : Tm) (c : Call) (e : Nat) (d : Cn) : Prop := ∃ f xs vs, calleeOf T c = some (true, f, xs) ∧ (∀ x ∈ c.args.toList, (look T x).1 = true) ∧ argsOf H T c xs = some vs ∧ Does P f vs (.own e d) ∧
  (d.flat = true ∨ ((∀ x ∈ c.args.toList, (look T x).2.free = true) ∧ ∀ x ∈ xs, x.ltB 0 = true))
def quietW (cf : Cfg) (ops : Array Oper) (K : St → Prop) (o : Oper) (X : St) : Prop :=
  (guardOf ops o X.T).1 ∧ (qev cf X.H X.T (guardOf ops o X.T).2 o.op).1 ∧ K ⟨X.T.put o.dst ((guardOf ops o X.T).2, (qev cf X.H X.T (guardOf ops o X.T).2 o.op).2), X.H⟩
def stepW (P : Program) (cf : Cfg) (N : Nat) (ops : Array Oper) (K : St → Prop) (o : Oper) (X : St) : Prop :=
  o.dst.all (Nat.blt · N) = true ∧ match o.op with
  | .box _ x => o.guard = none ∧ (match look X.T x with
    | (true, v) => (match cellsOf v with
      | some cs => ownsB X.H v = true ∧ K ⟨X.T.put o.dst (true, .lf (.ptr X.H.length 0)), X.H ++ [.box cs]⟩
      | none => False)
    | _ => False)
  | .alloc t => o.guard = none ∧ cf.sz t ≠ 0 ∧ K ⟨X.T.put o.dst (true, .lf (.ptr X.H.length 0)), X.H ++ [.box ((cf.zero t).map fun v => .b (.val v))]⟩
  | .store t x y => o.guard = none ∧ o.dst = none ∧ cf.sz t ≠ 0 ∧ (match look X.T x, look X.T y with
    | (true, .tv (.one (.ptr i off))), (true, .tv v) => (match X.H[i]? with
      | some (.box cs) => v.oneB X.H = true ∧ v.cs.length = cf.sz t ∧ off + v.cs.length ≤ cs.length ∧ K ⟨X.T, X.H.set i (.box (splice cs off v.cs))⟩
      | _ => False)
    | (true, .tv (.one (.oa i wd j off))), (true, .tv v) => (match X.H[i]? with
      | some (.row e c) => (match c.put j off v with
        | some c' => v.oneB X.H = true ∧ v.cs.length = cf.sz t ∧ wd = c.w ∧ j < c.len ∧ off + v.cs.length ≤ c.w ∧ K ⟨X.T, X.H.set i (.row e c')⟩
        | none => False)
      | _ => False)
    | _, _ => False)
  | .makeSlice t x y => o.guard = none ∧ (match look X.T x, look X.T y, cf.ty t with
    | (true, .tv (.one (.b (.val (.int .i64 m))))), (true, .tv (.one (.b (.val (.int .i64 m'))))), .slice e => (match zeros cf e m.toNat with
      | some c => m = m' ∧ cf.sz e ≠ 0 ∧ 0 ≤ m ∧ m ≤ 1073741824 ∧ c.w = cf.sz e ∧ cf.zero e = zerosV c ∧ cf.bytes e ≤ 4096 ∧ K ⟨X.T.put o.dst (true, .lf (.own X.H.length)), X.H ++ [.row e c]⟩
      | none => False)
    | _, _, _ => False)
  | .buildSlice t n parts => o.guard = none ∧ (match n, cf.ty t with
    | 0, .slice e => (match emp cf e with
      | some c => parts = #[] ∧ cf.sz e ≠ 0 ∧ K ⟨X.T.put o.dst (true, .lf (.own X.H.length)), X.H ++ [.row e c]⟩
      | none => False)
    | n + 1, .slice e => parts.toList.map (·.1) = List.range (n + 1) ∧ (match parts.toList.mapM (fun p => match look X.T p.2 with | (true, .tv v) => some v | _ => none) with
      | some vs => (match litN vs with
        | some c => cf.sz e ≠ 0 ∧ (n + 1) * cf.sz e ≤ 16777216 ∧ (∀ v ∈ vs, v.cs.length = cf.sz e ∧ v.cs.all (Lf.oneB X.H) = true) ∧ c.w = cf.sz e ∧ K ⟨X.T.put o.dst (true, .sl c), X.H⟩
        | none => False)
      | none => False)
    | _, _ => False)
  | .call c => (match c.callee, c.args.toList, c.argTypes.toList with
    | .builtin .append, [x, y], [t, t'] => o.guard = none ∧ t = t' ∧ (match look X.T x, look X.T y, cf.ty t with
      | (true, .tv (.one (.own i))), (true, v), .slice e => (match X.H[i]?, content X.H v with
        | some (.row e' c), some c2 => (match c.app c2 with
          | some c' => e = e' ∧ cf.sz e ≠ 0 ∧ c.w = cf.sz e ∧ 0 < c2.len ∧ c.len + c2.len ≤ 1073741824 ∧ cf.bytes e ≤ 4096 ∧ K ⟨(X.T.map (Lf.kill i)).put o.dst (true, .lf (.own i)), (X.H.map (Ob.map (Lf.kill i))).set i (.row e c')⟩
          | none => False)
        | _, _ => False)
      | (true, .tv (.one (.b (.val (.slice none 0 0))))), (true, v), .slice e => (match content X.H v with
        | some c2 => cf.sz e ≠ 0 ∧ c2.w = cf.sz e ∧ 0 < c2.len ∧ c2.len ≤ 1073741824 ∧ cf.bytes e ≤ 4096 ∧ K ⟨X.T.put o.dst (true, .lf (.own X.H.length)), X.H ++ [.row e c2]⟩
        | none => False)
      | _, _, _ => False)
    | .value _, _, _ => ((guardOf ops o X.T).1 ∧ ∃ r, callOK P X.H X.T (guardOf ops o X.T).2 c r ∧ K ⟨X.T.put o.dst ((guardOf ops o X.T).2, r), X.H⟩) ∨
        (o.guard = none ∧ ∃ e d, callOwn P X.H X.T c e d ∧ K ⟨X.T.put o.dst (true, .lf (.own X.H.length)), X.H ++ [.row e d]⟩)
    | _, _, _ => quietW cf ops K o X)
  | _ => quietW cf ops K o X
def sW (P : Program) (cf : Cfg) (N : Nat) (ops : Array Oper) (Q : St → Prop) : List Oper → St → Prop
  | [], X => Q X
  | o :: l, X => stepW P cf N ops (sW P cf N ops Q l) o X
end Am
end Go.Proofs.Ytoaecbdpkmeenaa
