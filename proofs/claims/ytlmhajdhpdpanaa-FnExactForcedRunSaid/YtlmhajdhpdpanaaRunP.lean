/- Runs of an algorithm: the plain laws. Conditions: problems and algorithms that are right. -/
import Derived.Test.YtlmhajdhpdpanaaCost
import Derived.Test.YtlmhajdhpdpanaaFreeP
set_option linter.all false
set_option linter.unusedSimpArgs false
set_option linter.unusedVariables false
namespace Go.Proofs.Ytlmhajdhpdpanaa

/-- the state behind a request -/
def stepS (next : List (List Int)) (x : Nat) (r : Int) : Nat := (at2 next x r.toNat).toNat
def endS (next : List (List Int)) : Nat → List Int → Nat
  | x, [] => x
  | x, r :: rs => endS next (stepS next x r) rs
def costS (m s next : List (List Int)) : Nat → List Int → Int
  | _, [] => 0
  | x, r :: rs => at2 m x (stepS next x r) + at2 s r.toNat (stepS next x r) + costS m s next (stepS next x r) rs
def statesS (next : List (List Int)) : Nat → List Int → List Int
  | _, [] => []
  | x, r :: rs => (stepS next x r : Int) :: statesS next (stepS next x r) rs
theorem endS_app {next : List (List Int)} : ∀ (x : Nat) (us vs : List Int), endS next x (us ++ vs) = endS next (endS next x us) vs
  | _, [], _ => rfl
  | x, r :: us, vs => endS_app _ us vs
theorem costS_app {m s next : List (List Int)} : ∀ (x : Nat) (us vs : List Int), costS m s next x (us ++ vs) = costS m s next x us + costS m s next (endS next x us) vs
  | _, [], _ => by simp [costS, endS]
  | x, r :: us, vs => by
    simp only [List.cons_append, costS, endS, costS_app _ us vs]
    omega
theorem statesS_app {next : List (List Int)} : ∀ (x : Nat) (us vs : List Int), statesS next x (us ++ vs) = statesS next x us ++ statesS next (endS next x us) vs
  | _, [], _ => rfl
  | x, r :: us, vs => by simp only [List.cons_append, statesS, endS, statesS_app _ us vs]
theorem statesS_len {next : List (List Int)} : ∀ (x : Nat) (rs : List Int), (statesS next x rs).length = rs.length
  | _, [] => rfl
  | x, r :: rs => by simp [statesS, statesS_len _ rs]
theorem endS_take {next : List (List Int)} {x : Nat} {rs : List Int} {k : Nat} (h : k < rs.length) : endS next x (rs.take (k + 1)) = stepS next (endS next x (rs.take k)) (rs.getD k 0) := by
  rw [take_getD h 0, endS_app]; rfl
theorem costS_take {m s next : List (List Int)} {x : Nat} {rs : List Int} {k : Nat} (h : k < rs.length) : costS m s next x (rs.take (k + 1)) = costS m s next x (rs.take k) + (at2 m (endS next x (rs.take k)) (endS next x (rs.take (k + 1))) + at2 s (rs.getD k 0).toNat (endS next x (rs.take (k + 1)))) := by
  rw [endS_take h, take_getD h 0, costS_app]
  simp [costS]
theorem statesS_take {next : List (List Int)} {x : Nat} {rs : List Int} {k : Nat} (h : k < rs.length) : statesS next x (rs.take (k + 1)) = statesS next x (rs.take k) ++ [(endS next x (rs.take (k + 1)) : Int)] := by
  rw [endS_take h, take_getD h 0, statesS_app]
  rfl
theorem statesS_getD {next : List (List Int)} {x : Nat} {rs : List Int} {k : Nat} (h : k < rs.length) : (statesS next x rs).getD k 0 = (endS next x (rs.take (k + 1)) : Int) := by
  have h1 : statesS next x rs = statesS next x (rs.take (k + 1)) ++ statesS next (endS next x (rs.take (k + 1))) (rs.drop (k + 1)) := by rw [← statesS_app, List.take_append_drop]
  rw [h1, statesS_take h]
  have h2 : (statesS next x (rs.take k)).length = k := by rw [statesS_len, List.length_take]; omega
  rw [List.getD_eq_getElem?_getD, List.append_assoc, List.getElem?_append_right (by omega), h2]
  simp
/-- a sequence of requests below n -/
def reqsB (n : Nat) (rs : List Int) : Prop := ∀ r ∈ rs, 0 ≤ r ∧ r < (n : Int)
theorem seq_reqs {n : Nat} {rs : List Int} (h : seqB n rs = true) : reqsB n rs ∧ rs.length ≤ 60 := by
  unfold seqB at h
  simp only [Bool.and_eq_true, decide_eq_true_eq] at h
  refine ⟨fun r hr => ?_, h.1⟩
  have := allIn_iff.1 h.2 r hr
  omega
theorem reqsB.at {n : Nat} {rs : List Int} (h : reqsB n rs) {k : Nat} (hk : k < rs.length) : ∃ r : Nat, rs.getD k 0 = r ∧ r < n := by
  have h1 := h _ (List.getElem_mem hk)
  refine ⟨(rs[k]).toNat, ?_, by omega⟩
  rw [getD_in hk]
  omega
theorem reqsB.take {n : Nat} {rs : List Int} (h : reqsB n rs) (k : Nat) : reqsB n (rs.take k) := fun r hr => h r (List.mem_of_mem_take hr)
structure AlgAt (m s next : List (List Int)) (x : Nat) (r : Nat) (y : Nat) : Prop where
  lt : y < m.length
  eq : at2 next x r = (y : Int)
  ok : 0 ≤ at2 s r y
  row : (next.getD x []).length = s.length
  len : next.length = m.length
theorem alg_at {m s next : List (List Int)} (ha : algB m s next = true) {x r : Nat} (hx : x < m.length) (hr : r < s.length) : AlgAt m s next x r (stepS next x r) := by
  unfold algB at ha
  simp only [Bool.and_eq_true, beq_iff_eq, List.all_eq_true] at ha
  obtain ⟨h1, h2⟩ := ha
  have hx' : x < next.length := by omega
  have h3 := h2 _ (List.getElem_mem hx')
  rw [← getD_in (d := []) hx'] at h3
  unfold servB at h3
  simp only [Bool.and_eq_true, beq_iff_eq] at h3
  have h4 := allLt_iff.1 h3.2 r (by omega)
  unfold toOk at h4
  simp only [Bool.and_eq_true, decide_eq_true_eq] at h4
  have h5 := rng_iff.1 h4.1
  have e : at2 next x r = ((next.getD x []).getD r 0) := rfl
  have e2 : stepS next x r = ((next.getD x []).getD r 0).toNat := by unfold stepS; rw [Int.toNat_natCast, e]
  refine ⟨by rw [e2]; omega, by rw [e2, e]; omega, by rw [e2]; exact h4.2, h3.1, h1⟩
theorem endS_lt {m s next : List (List Int)} (ha : algB m s next = true) : ∀ (rs : List Int) (x : Nat), x < m.length → reqsB s.length rs → endS next x rs < m.length
  | [], x, hx, _ => hx
  | r :: rs, x, hx, hq => by
    have h1 := hq r (by simp)
    have h2 := alg_at ha hx (r := r.toNat) (by omega)
    rw [show ((r.toNat : Nat) : Int) = r by omega] at h2
    exact endS_lt ha rs _ h2.lt fun q hq' => hq q (by simp [hq'])
theorem costS_bd {m s next : List (List Int)} (hp : probB m s = true) (ha : algB m s next = true) : ∀ (rs : List Int) (x : Nat), x < m.length → reqsB s.length rs → 0 ≤ costS m s next x rs ∧ costS m s next x rs ≤ 119 * rs.length
  | [], x, hx, _ => by simp [costS]
  | r :: rs, x, hx, hq => by
    have h1 := hq r (by simp)
    have h2 := alg_at ha hx (r := r.toNat) (by omega)
    rw [show ((r.toNat : Nat) : Int) = r by omega] at h2
    have h3 := (prob_m hp hx).2 _ h2.lt
    have h4 := prob_s hp (r := r.toNat) (by omega) _ h2.lt
    have h5 := h2.ok
    have h6 := costS_bd hp ha rs _ h2.lt fun q hq' => hq q (by simp [hq'])
    simp only [costS, List.length_cons]
    omega
/-- the sum of weights and costs of a mixture -/
def mixedS (m s : List (List Int)) (ws : List Int) (ns : List (List (List Int))) (x : Nat) (rs : List Int) : Nat → Int := sumTo fun i => ws.getD i 0 * costS m s (ns.getD i []) x rs
end Go.Proofs.Ytlmhajdhpdpanaa
