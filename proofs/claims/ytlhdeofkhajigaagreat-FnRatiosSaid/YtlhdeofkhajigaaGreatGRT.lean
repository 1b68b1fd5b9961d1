/- Costs and ratios along requests, on the machine: the program's and the reference's. Conditions: none. -/
import Derived.Test.YtlhdeofkhajigaaGreatGRU
import Derived.Test.YtlhdeofkhajigaaGreatGWI
import Derived.Test.YtlhdeofkhajigaaGreatGFR
import Derived.Test.YtlhdeofkhajigaaGreatGraph
import Derived.Test.YtlhdeofkhajigaaGreatGED
import Derived.Test.YtlhdeofkhajigaaGreatCB
import Derived.Test.YtlhdeofkhajigaaGreatExtra
import Derived.Test.YtlhdeofkhajigaaGreatGGR
import Derived.Test.YtlhdeofkhajigaaGreatGDS
import Derived.Test.YtlhdeofkhajigaaGreatRsm
import Derived.Test.YtlhdeofkhajigaaGreatGFM
set_option linter.all false
set_option linter.unusedSimpArgs false
set_option linter.unusedVariables false
namespace Go.Proofs.YtlhdeofkhajigaaGreat
open Go Go.RowKit Am

def acB (m s nx : List (List Int)) (x : Int) (rs : List Int) : Bool := takesB m s x rs && algB m s nx
def acV (m s nx : List (List Int)) (x : Int) (rs : List Int) : Int := bif acB m s nx x rs then costS m s nx x.toNat rs else 0
def lcV (m s : List (List Int)) (x : Int) (rs : List Int) : Int := bif takesB m s x rs then optM m s x.toNat rs else 0
/-- what is told of the ratio on requests -/
def roV (m s nx : List (List Int)) (x : Int) (rs : List Int) : (Int × Int) × Bool := bif acB m s nx x rs && !decide (optM m s x.toNat rs = 0) then (mkFr (costS m s nx x.toNat rs) (optM m s x.toNat rs), mkOk (costS m s nx x.toNat rs) (optM m s x.toNat rs)) else ((0, 0), false)
abbrev i2V (v : Int) (b : Bool) : AV := .tup [.one (.b (.val (.int .i64 v))), .one (.b (.val (.bool b)))]
theorem opt_bd {m s : List (List Int)} (hp : probB m s = true) {x : Nat} (hx : x < m.length) {rs : List Int} (hq : reqsB s.length rs) (hl : rs.length ≤ 60) : 0 ≤ optM m s x rs ∧ optM m s x rs ≤ 10000 := by
  have h := leastM_bd (workM_ok hp hx hq (by omega) rs.length (Nat.le_refl _)) (m.length - 1) (by omega)
  rw [List.take_length] at h
  unfold optM
  omega
theorem impl_AlgorithmCost_v (m s nx : List (List Int)) (x : Int) (rs : List Int) : Does Tryz.prog 17 [prA m s, .sl (.ii nx), .int x, .sl (.ints rs)] (.imm (i2V (acV m s nx x rs) (acB m s nx x rs))) := by
  cases hb : acB m s nx x rs
  · unfold acV
    rw [hb]
    unfold acB at hb
    refine spec_imm Tryz.func17 rfl Tryz.ntmps17 cfOK (fun _ _ => by kernel_rfl) rfl (Nat.le_of_ble_eq_true rfl) ?_
    intro M0 w0
    rw [Tryz.results17]
    refine amGo ?_
    ((try refine Or.inl ?_); refine ⟨_, (isStarted_d m s x rs), .inl rfl, ?_⟩; refine amC ?_)
    refine amGo ?_
    ((try refine Or.inl ?_); refine ⟨_, (fun hh => isAlgorithm_d m s nx (prob_rows (takes_ok hh).1)), .inl rfl, ?_⟩; refine amC ?_)
    refine amGo ?_
    refine awp_cond amQ (fun hc => ?_) (fun hc => ?_)
    · refine amGo ?_
      (simp only [xec, simprocAttr]; refine ⟨[_, _], ⟨rfl, rfl, trivial⟩, rfl, Imp.eq ?_⟩)
      rfl
    · revert hb hc
      cases takesB m s x rs <;> cases algB m s nx <;> simp
  · have hb2 := hb
    unfold acB at hb2
    rw [Bool.and_eq_true] at hb2
    obtain ⟨ht, ha⟩ := hb2
    obtain ⟨hp, ⟨k, rfl, hk⟩, hq, hl⟩ := takes_ok ht
    unfold acV
    rw [hb, Int.toNat_natCast]
    exact algCost_d ht hp ha hk hq hl
theorem spec_AlgorithmCost_v (m s nx : List (List Int)) (x : Int) (rs : List Int) : Does Tryz.prog 30 [prA m s, .sl (.ii nx), .int x, .sl (.ints rs)] (.imm (i2V (acV m s nx x rs) (acB m s nx x rs))) := by
  cases hb : acB m s nx x rs
  · unfold acV
    rw [hb]
    unfold acB at hb
    refine spec_imm Tryz.func30 rfl Tryz.ntmps30 cfOK (fun _ _ => by kernel_rfl) rfl (Nat.le_of_ble_eq_true rfl) ?_
    intro M0 w0
    rw [Tryz.results30]
    refine amGo ?_
    ((try refine Or.inl ?_); refine ⟨_, (l8Takes_d m s x rs), .inl rfl, ?_⟩; refine amC ?_)
    refine amGo ?_
    ((try refine Or.inl ?_); refine ⟨_, (fun hh => l8Alg_d m s nx (prob_rows (takes_ok hh).1)), .inl rfl, ?_⟩; refine amC ?_)
    refine amGo ?_
    refine awp_cond amQ (fun hc => ?_) (fun hc => ?_)
    · refine amGo ?_
      (simp only [xec, simprocAttr]; refine ⟨[_, _], ⟨rfl, rfl, trivial⟩, rfl, Imp.eq ?_⟩)
      rfl
    · revert hb hc
      cases takesB m s x rs <;> cases algB m s nx <;> simp
  · have hb2 := hb
    unfold acB at hb2
    rw [Bool.and_eq_true] at hb2
    obtain ⟨ht, ha⟩ := hb2
    obtain ⟨hp, ⟨k, rfl, hk⟩, hq, hl⟩ := takes_ok ht
    unfold acV
    rw [hb, Int.toNat_natCast]
    refine spec_imm Tryz.func30 rfl Tryz.ntmps30 cfOK (fun _ _ => by kernel_rfl) rfl (Nat.le_of_ble_eq_true rfl) ?_
    intro M0 w0
    rw [Tryz.results30]
    refine amGo ?_
    ((try refine Or.inl ?_); refine ⟨_, (l8Takes_d m s k rs), .inl rfl, ?_⟩; refine amC ?_)
    refine amGo ?_
    ((try refine Or.inl ?_); refine ⟨_, (fun hh => l8Alg_d m s nx (prob_rows hp)), .inl rfl, ?_⟩; refine amC ?_)
    refine amGo ?_
    refine awp_cond amQ (fun hc => ?_) (fun hc => ?_)
    · simp [ht, ha] at hc
    refine amGo ?_
    ((try refine Or.inl ?_); refine ⟨_, (l8Cost_d m s nx k rs hp ha hk hq (by omega)), .inl rfl, ?_⟩; refine amC ?_)
    refine amGo ?_
    (simp only [xec, simprocAttr]; refine ⟨[_, _], ⟨rfl, rfl, trivial⟩, rfl, Imp.eq ?_⟩)
    rfl
theorem impl_LeastCost_v (m s : List (List Int)) (x : Int) (rs : List Int) : Does Tryz.prog 18 [prA m s, .int x, .sl (.ints rs)] (.imm (i2V (lcV m s x rs) (takesB m s x rs))) := by
  cases ht : takesB m s x rs
  · unfold lcV
    rw [ht]
    refine spec_imm Tryz.func18 rfl Tryz.ntmps18 cfOK (fun _ _ => by kernel_rfl) rfl (Nat.le_of_ble_eq_true rfl) ?_
    intro M0 w0
    rw [Tryz.results18]
    refine amGo ?_
    ((try refine Or.inl ?_); refine ⟨_, (isStarted_d m s x rs), .inl rfl, ?_⟩; refine amC ?_)
    rw [ht]
    refine amGo ?_
    refine awp_cond amQ (fun hc => ?_) (fun hc => ?_)
    · refine amGo ?_
      (simp only [xec, simprocAttr]; refine ⟨[_, _], ⟨rfl, rfl, trivial⟩, rfl, Imp.eq ?_⟩)
      rfl
    · simp at hc
  · obtain ⟨hp, ⟨k, rfl, hk⟩, hq, hl⟩ := takes_ok ht
    unfold lcV
    rw [ht, Int.toNat_natCast]
    exact leastCost_x ht hp hk hq hl
theorem impl_RatioOn_d (m s nx : List (List Int)) (x : Int) (rs : List Int) : Does Tryz.prog 28 [prA m s, .sl (.ii nx), .int x, .sl (.ints rs)] (.imm (.tup [frT (roV m s nx x rs).1, blT (roV m s nx x rs).2])) := by
  have hA := impl_AlgorithmCost_v m s nx x rs
  unfold roV
  unfold acV at hA
  cases hb : acB m s nx x rs
  · rw [hb] at hA
    refine spec_imm Tryz.func28 rfl Tryz.ntmps28 cfOK (fun _ _ => by kernel_rfl) rfl (Nat.le_of_ble_eq_true rfl) ?_
    intro M0 w0
    rw [Tryz.results28]
    refine amGo ?_
    ((try refine Or.inl ?_); refine ⟨_, (hA), .inl rfl, ?_⟩; refine amC ?_)
    refine amGo ?_
    refine awp_cond amQ (fun hc => ?_) (fun hc => ?_)
    · refine amGo ?_
      (simp only [xec, simprocAttr]; refine ⟨[_, _], ⟨⟨amK, rfl⟩, rfl, trivial⟩, rfl, Imp.eq ?_⟩)
      rfl
    · simp at hc
  · rw [hb] at hA
    unfold acB at hb
    rw [Bool.and_eq_true] at hb
    obtain ⟨ht, ha⟩ := hb
    obtain ⟨hp, ⟨k, rfl, hk⟩, hq, hl⟩ := takes_ok ht
    have h1 := opt_bd hp hk hq hl
    have h2 := costS_bd hp ha rs k hk hq
    have hL := leastCost_d m s k rs hp hk hq (by omega)
    simp only [cond_true, Int.toNat_natCast, Bool.true_and] at hA ⊢
    by_cases ho : optM m s k rs = 0
    · rw [decide_eq_true ho]
      rw [ho] at hL
      refine spec_imm Tryz.func28 rfl Tryz.ntmps28 cfOK (fun _ _ => by kernel_rfl) rfl (Nat.le_of_ble_eq_true rfl) ?_
      intro M0 w0
      rw [Tryz.results28]
      refine amGo ?_
      ((try refine Or.inl ?_); refine ⟨_, (hA), .inl rfl, ?_⟩; refine amC ?_)
      refine amGo ?_
      refine awp_cond amQ (fun hc => ?_) (fun hc => ?_)
      · simp at hc
      refine amGo ?_
      ((try refine Or.inl ?_); refine ⟨_, (hL), .inl rfl, ?_⟩; refine amC ?_)
      refine amGo ?_
      refine awp_cond amQ (fun hd => ?_) (fun hd => ?_)
      · refine amGo ?_
        (simp only [xec, simprocAttr]; refine ⟨[_, _], ⟨⟨amK, rfl⟩, rfl, trivial⟩, rfl, Imp.eq ?_⟩)
        rfl
      · simp at hd
    · rw [decide_eq_false ho]
      generalize optM m s k rs = o at *
      generalize costS m s nx k rs = c at *
      refine spec_imm Tryz.func28 rfl Tryz.ntmps28 cfOK (fun _ _ => by kernel_rfl) rfl (Nat.le_of_ble_eq_true rfl) ?_
      intro M0 w0
      rw [Tryz.results28]
      refine amGo ?_
      ((try refine Or.inl ?_); refine ⟨_, (hA), .inl rfl, ?_⟩; refine amC ?_)
      refine amGo ?_
      refine awp_cond amQ (fun hc => ?_) (fun hc => ?_)
      · simp at hc
      refine amGo ?_
      ((try refine Or.inl ?_); refine ⟨_, (hL), .inl rfl, ?_⟩; refine amC ?_)
      refine amGo ?_
      refine awp_cond amQ (fun hd => ?_) (fun hd => ?_)
      · exact (ho (of_decide_eq_true hd)).elim
      refine amGo ?_
      ((try refine Or.inl ?_); refine ⟨_, (makeFrac_d c o (by omega) (by omega) (by omega) (by omega)), .inl rfl, ?_⟩; refine amC ?_)
      refine amGo ?_
      (simp only [xec, simprocAttr]; refine ⟨[_, _], ⟨⟨amK, rfl⟩, rfl, trivial⟩, rfl, Imp.eq ?_⟩)
      rfl
theorem spec_RatioOn_d (m s nx : List (List Int)) (x : Int) (rs : List Int) : Does Tryz.prog 29 [prA m s, .sl (.ii nx), .int x, .sl (.ints rs)] (.imm (.tup [frT (roV m s nx x rs).1, blT (roV m s nx x rs).2])) := by
  have hT := l9Takes_d m s nx x rs
  unfold roV acB
  cases hb : (takesB m s x rs && algB m s nx)
  · rw [hb] at hT
    refine spec_imm Tryz.func29 rfl Tryz.ntmps29 cfOK (fun _ _ => by kernel_rfl) rfl (Nat.le_of_ble_eq_true rfl) ?_
    intro M0 w0
    rw [Tryz.results29]
    refine amGo ?_
    ((try refine Or.inl ?_); refine ⟨_, (hT), .inl rfl, ?_⟩; refine amC ?_)
    refine amGo ?_
    refine awp_cond amQ (fun hc => ?_) (fun hc => ?_)
    · refine amGo ?_
      (simp only [xec, simprocAttr]; refine ⟨[_, _], ⟨⟨amK, rfl⟩, rfl, trivial⟩, rfl, Imp.eq ?_⟩)
      rfl
    · simp at hc
  · rw [hb] at hT
    rw [Bool.and_eq_true] at hb
    obtain ⟨ht, ha⟩ := hb
    obtain ⟨hp, ⟨k, rfl, hk⟩, hq, hl⟩ := takes_ok ht
    have h1 := opt_bd hp hk hq hl
    have h2 := costS_bd hp ha rs k hk hq
    have hL := l8Opt_d m s k rs hp hk hq (by omega)
    have hC := l8Cost_d m s nx k rs hp ha hk hq (by omega)
    simp only [cond_true, Int.toNat_natCast, Bool.true_and] at ⊢
    by_cases ho : optM m s k rs = 0
    · rw [decide_eq_true ho]
      rw [ho] at hL
      refine spec_imm Tryz.func29 rfl Tryz.ntmps29 cfOK (fun _ _ => by kernel_rfl) rfl (Nat.le_of_ble_eq_true rfl) ?_
      intro M0 w0
      rw [Tryz.results29]
      refine amGo ?_
      ((try refine Or.inl ?_); refine ⟨_, (hT), .inl rfl, ?_⟩; refine amC ?_)
      refine amGo ?_
      refine awp_cond amQ (fun hc => ?_) (fun hc => ?_)
      · simp at hc
      refine amGo ?_
      ((try refine Or.inl ?_); refine ⟨_, (hL), .inl rfl, ?_⟩; refine amC ?_)
      refine amGo ?_
      refine awp_cond amQ (fun hd => ?_) (fun hd => ?_)
      · refine amGo ?_
        (simp only [xec, simprocAttr]; refine ⟨[_, _], ⟨⟨amK, rfl⟩, rfl, trivial⟩, rfl, Imp.eq ?_⟩)
        rfl
      · simp at hd
    · rw [decide_eq_false ho]
      generalize optM m s k rs = o at *
      generalize costS m s nx k rs = c at *
      refine spec_imm Tryz.func29 rfl Tryz.ntmps29 cfOK (fun _ _ => by kernel_rfl) rfl (Nat.le_of_ble_eq_true rfl) ?_
      intro M0 w0
      rw [Tryz.results29]
      refine amGo ?_
      ((try refine Or.inl ?_); refine ⟨_, (hT), .inl rfl, ?_⟩; refine amC ?_)
      refine amGo ?_
      refine awp_cond amQ (fun hc => ?_) (fun hc => ?_)
      · simp at hc
      refine amGo ?_
      ((try refine Or.inl ?_); refine ⟨_, (hL), .inl rfl, ?_⟩; refine amC ?_)
      refine amGo ?_
      refine awp_cond amQ (fun hd => ?_) (fun hd => ?_)
      · exact (ho (of_decide_eq_true hd)).elim
      refine amGo ?_
      ((try refine Or.inl ?_); refine ⟨_, (hC), .inl rfl, ?_⟩; refine amC ?_)
      refine amGo ?_
      ((try refine Or.inl ?_); refine ⟨_, (l2Make_d c o (by omega) (by omega) (by omega) (by omega)), .inl rfl, ?_⟩; refine amC ?_)
      refine amGo ?_
      (simp only [xec, simprocAttr]; refine ⟨[_, _], ⟨⟨amK, rfl⟩, rfl, trivial⟩, rfl, Imp.eq ?_⟩)
      rfl
end Go.Proofs.YtlhdeofkhajigaaGreat
/- IsPotential, on the machine: the program's. Conditions: a whole graph of pairs, and numbers for its pairs. -/
set_option linter.all false
set_option linter.unusedSimpArgs false
set_option linter.unusedVariables false
namespace Go.Proofs.YtlhdeofkhajigaaGreat
open Go Go.RowKit Am

theorem indexFuncE_d (xs : List (List Int)) (K : Nat) (caps : List Lf) (p : List Int → Bool) (hcap : caps.all capOK = true) (hK : ∀ j, j < xs.length → Does Tryz.prog K (fourE (xs.getD j []) :: caps.map fun y => .tv (.one y)) (.imm (.bool (p (xs.getD j []))))) :
    Does Tryz.prog 95 [.sl (.k 4 xs), .clo K caps] (.imm (.int (idxOf p xs))) := by
  refine spec_imm Tryz.func95 rfl Tryz.ntmps95 cfOK (fun _ _ => by kernel_rfl) (by simp only [List.all_cons, List.all_nil, clo_free hcap]; rfl) (Nat.le_of_ble_eq_true rfl) ?_
  intro M0 w0
  rw [Tryz.results95]
  (refine awp_fits 0 rfl fun hf => ?_; simp only [xp, simprocAttr] at hf; simp only [xf, simprocAttr] at hf)
  refine amGo ?_
  refine awp_rounds (α := Nat) (fun k => [(8, true, .int k)]) [0, 1, 6, 7] (fun _ => []) (fun k => k ≤ xs.length ∧ ∀ x ∈ xs.take k, p x = false) (fun k => xs.length - k) 0 (by ((try simp only [xk]); (repeat (refine leK_cons ?_ ?_; first | (exact amE) | rotate_left)); (try exact leK_nil rfl); (all_goals (try (simp only [xr, simprocAttr]; try refine int_eq1 ?_))))) ⟨Nat.zero_le _, by simp⟩ fun k hk => ?_
  obtain ⟨hk, hp⟩ := hk
  simp only [xr, simprocAttr]
  refine amGo ?_
  refine awp_cond amQ (fun hc => ?_) (fun hc => ?_)
  · have hk' : k < xs.length := by simpa using hc
    have hx : xs.getD k [] = xs[k] := by simp [hk']
    refine amGo ?_
    (simp only [xr, simprocAttr, caps_view hcap]; refine amS ?_)
    ((try refine Or.inl ?_); refine ⟨_, (hK k hk'), .inl rfl, ?_⟩; refine amC ?_)
    refine amGo ?_
    refine awp_cond amQ (fun hd => ?_) (fun hd => ?_)
    · refine amGo ?_
      (simp only [xe, simprocAttr]; refine ⟨_, rfl, rfl, Imp.eq ?_⟩)
      rw [hx] at hd
      rw [idxOf_some hk' hd hp]
    · refine amGo ?_
      refine ⟨k + 1, by omega, fun x hx' => ?_, by omega, .inl ?_⟩
      · rw [List.take_succ_eq_append_getElem hk', List.mem_append, List.mem_singleton] at hx'
        rcases hx' with hx' | rfl
        · exact hp x hx'
        · rw [← hx]; exact hd
      · ((try simp only [xk]); (repeat (refine leK_cons ?_ ?_; first | (exact amE) | rotate_left)); (try exact leK_nil rfl); (all_goals (try (simp only [xr, simprocAttr]; try refine int_eq1 ?_))))
  · have hk' : k = xs.length := by simp at hc; omega
    subst hk'
    rw [List.take_length] at hp
    refine amGo ?_
    (simp only [xe, simprocAttr]; refine ⟨_, rfl, rfl, Imp.eq ?_⟩)
    rw [idxOf_none hp]
/-- an edge at which numbers are no potential -/
def brk (a : Int × Int) (tab : List Int) (e : List Int) : Bool := decide (tab.getD (e.getD 0 0).toNat 0 < gainC a.1 a.2 e + tab.getD (e.getD 1 0).toNat 0)
theorem broken1_d {a : Int × Int} {tab : List Int} {e : List Int} {n : Nat} (hl : tab.length = n) (h0 : 0 ≤ e.getD 0 0 ∧ e.getD 0 0 < n ∧ 0 ≤ e.getD 1 0 ∧ e.getD 1 0 < n) (hg : 0 ≤ a.2 * e.getD 2 0 ∧ a.2 * e.getD 2 0 ≤ 11900000000 ∧ 0 ≤ a.1 * e.getD 3 0 ∧ a.1 * e.getD 3 0 ≤ 11900000000) (hb : ∀ k, k < n → 0 ≤ tab.getD k 0 ∧ tab.getD k 0 ≤ 1000000000000000) : Does Tryz.prog 96 [fourE e, .lf (.ip [.val (.int .i64 a.1), .val (.int .i64 a.2)] 0), .lf (.ip [.sl (.ints tab)] 0)] (.imm (.bool (brk a tab e))) := by
  have h1 := hb (e.getD 1 0).toNat (by omega)
  have h2 := hb (e.getD 0 0).toNat (by omega)
  have hgc : gainC a.1 a.2 e = a.2 * e.getD 2 0 - a.1 * e.getD 3 0 := rfl
  refine spec_imm Tryz.func96 rfl Tryz.ntmps96 cfOK (fun _ _ => by kernel_rfl) rfl (Nat.le_of_ble_eq_true rfl) ?_
  intro M0 w0
  rw [Tryz.results96]
  (refine awp_fits 2 rfl fun hf => ?_; simp only [xp, simprocAttr] at hf; simp only [xf, simprocAttr] at hf)
  refine amGo ?_
  ((try refine Or.inl ?_); refine ⟨_, (gain_d e a hg.1 (by omega) hg.2.2.1 (by omega)), .inl rfl, ?_⟩; refine amC ?_)
  refine amGo ?_
  (simp only [xe, simprocAttr]; refine ⟨_, rfl, rfl, Imp.eq ?_⟩)
  rfl
theorem broken_d {L E : List (List Int)} {n K : Nat} (hE : EgI E n) (hc : ∀ e ∈ E, 0 ≤ e.getD 2 0 ∧ e.getD 2 0 ≤ 119 ∧ 0 ≤ e.getD 3 0 ∧ e.getD 3 0 ≤ 119) {a : Int × Int} (ha : ratioB a = true) {tab : List Int} (ht : tbB n tab = true) : Does Tryz.prog 48 [prX L E K, frA a, .sl (.ints tab)] (.imm (.int (idxOf (brk a tab) E))) := by
  obtain ⟨h1, h2, h3, h4⟩ := ratio_ok ha
  have hW := wt_bd hc (a := a.1) (b := a.2) h1 h2 (by omega) (by omega)
  have hl : tab.length = n := by unfold tbB at ht; rw [Bool.and_eq_true, beq_iff_eq] at ht; exact ht.1
  obtain ⟨a, b⟩ := a
  refine spec_imm Tryz.func48 rfl Tryz.ntmps48 cfOK (fun _ _ => by kernel_rfl) rfl (Nat.le_of_ble_eq_true rfl) ?_
  intro M0 w0
  rw [Tryz.results48]
  refine amGo ?_
  ((try refine Or.inl ?_); refine ⟨_, (indexFuncE_d E _ [.ip [.val (.int .i64 a), .val (.int .i64 b)] 0, .ip [.sl (.ints tab)] 0] (brk (a, b) tab) rfl fun j hj => broken1_d (a := (a, b)) hl (hE.at_ _ (getD_mem hj)) (hW _ (getD_mem hj)).1 fun k hk => (tab_at ht hk).2), .inl rfl, ?_⟩; refine amC ?_)
  refine amGo ?_
  (simp only [xe, simprocAttr]; refine ⟨_, rfl, rfl, Imp.eq ?_⟩)
  rfl
/-- what is told of numbers: whether they are a potential -/
def ipB (m s nx : List (List Int)) (x : Int) (a : Int × Int) (tab : List Int) : Bool := tbB (prQ m s nx x).1.list.length tab && !(egs (prQ m s nx x).1.rows).any (brk a tab)
def ipO (m s nx : List (List Int)) (x : Int) (a : Int × Int) : Bool := !(prQ m s nx x).2 && ratioB a
theorem impl_IsPotential_d (m s nx : List (List Int)) (x : Int) (a : Int × Int) (tab : List Int) : Does Tryz.prog 9 [prA m s, .sl (.ii nx), .int x, frA a, .sl (.ints tab)] (.imm (b2V (ipO m s nx x a && ipB m s nx x a tab) (ipO m s nx x a))) := by
  have hP := pairsOf_h m s nx x
  cases hq : (prQ m s nx x).2
  · have hF := prQ_full hq
    rw [show prR (prQ m s nx x) = .tup [.one (.ptr 0 0), .one (.b (.val (.bool true)))] by unfold prR; rw [hq]; rfl, show prO s.length (prQ m s nx x) = [.box [.own 1, .own 2, .b (.val (.int .i64 s.length))], .row 36 (.k 2 (prQ m s nx x).1.list), .row 93 (.k 4 (egs (prQ m s nx x).1.rows))] by unfold prO; rw [hq]; rfl] at hP
    have e1 : ipO m s nx x a = ratioB a := by unfold ipO; rw [hq]; rfl
    rw [e1]
    unfold ipB
    generalize (prQ m s nx x).1 = g at hP hF
    have hle := hF.le
    cases hra : ratioB a
    · skip
      refine spec_imm Tryz.func9 rfl Tryz.ntmps9 cfOK (fun _ _ => by kernel_rfl) rfl (Nat.le_of_ble_eq_true rfl) ?_
      intro M0 w0
      rw [Tryz.results9]
      refine amGo ?_
      (refine .inr (.inl (callW_a [] (hP) rfl rfl rfl rfl trivial rfl rfl rfl rfl ?_)); refine amC ?_)
      refine amGo ?_
      ((try refine Or.inl ?_); refine ⟨_, (isRatio_d a), .inl rfl, ?_⟩; refine amC ?_)
      refine amGo ?_
      refine awp_cond amQ (fun hr => ?_) (fun hr => ?_)
      · refine amGo ?_
        (simp only [xe, simprocAttr]; refine ⟨[_, _], ⟨rfl, rfl, trivial⟩, rfl, Imp.eq ?_⟩)
        rfl
      · simp [hra] at hr
    have hany := idxOf_any (brk a tab) (egs g.rows)
    refine spec_imm Tryz.func9 rfl Tryz.ntmps9 cfOK (fun _ _ => by kernel_rfl) rfl (Nat.le_of_ble_eq_true rfl) ?_
    intro M0 w0
    rw [Tryz.results9]
    refine amGo ?_
    (refine .inr (.inl (callW_a [] (hP) rfl rfl rfl rfl trivial rfl rfl rfl rfl ?_)); refine amC ?_)
    refine amGo ?_
    ((try refine Or.inl ?_); refine ⟨_, (isRatio_d a), .inl rfl, ?_⟩; refine amC ?_)
    refine amGo ?_
    refine awp_cond amQ (fun hr => ?_) (fun hr => ?_)
    · simp [hra] at hr
    refine amGo ?_
    ((try refine Or.inl ?_); refine ⟨_, (areNumbers_d tab g.list.length (by omega)), .inl rfl, ?_⟩; refine amC ?_)
    refine amGo ?_
    ((try refine Or.inl ?_); refine ⟨_, (fun h => broken_d (L := g.list) (K := s.length) (eg_I hF) (eg_c hF) hra h), .inl rfl, ?_⟩; refine amC ?_)
    refine amGo ?_
    (simp only [xe, simprocAttr]; refine ⟨[_, _], ⟨rfl, rfl, trivial⟩, rfl, Imp.eq ?_⟩)
    rw [← hany]
    by_cases hz : idxOf (brk a tab) (egs g.rows) < 0
    · rw [decide_eq_false (show ¬ 0 ≤ idxOf (brk a tab) (egs g.rows) by omega), decide_eq_true hz]; cases tbB g.list.length tab <;> rfl
    · rw [decide_eq_true (show 0 ≤ idxOf (brk a tab) (egs g.rows) by omega), decide_eq_false hz]; cases tbB g.list.length tab <;> rfl
  · rw [show prR (prQ m s nx x) = .tup [.one (.b (.val (.pointer none))), .one (.b (.val (.bool false)))] by unfold prR; rw [hq]; rfl, show prO s.length (prQ m s nx x) = [] by unfold prO; rw [hq]; rfl] at hP
    have e1 : ipO m s nx x a = false := by unfold ipO; rw [hq]; rfl
    rw [e1]
    refine spec_imm Tryz.func9 rfl Tryz.ntmps9 cfOK (fun _ _ => by kernel_rfl) rfl (Nat.le_of_ble_eq_true rfl) ?_
    intro M0 w0
    rw [Tryz.results9]
    refine amGo ?_
    (refine .inr (.inl (callW_a [] (hP) rfl rfl rfl rfl trivial rfl rfl rfl rfl ?_)); refine amC ?_)
    refine amGo ?_
    refine .inl ⟨AV.bool false, .inl rfl, ?_⟩
    simp only [xr, simprocAttr]
    refine amGo ?_
    refine awp_cond amQ (fun hr => ?_) (fun hr => ?_)
    · refine amGo ?_
      (simp only [xe, simprocAttr]; refine ⟨[_, _], ⟨rfl, rfl, trivial⟩, rfl, Imp.eq ?_⟩)
      rfl
    · simp at hr
/-- numbers that are a potential are told to be one -/
theorem ip_pot {E : List (List Int)} {n : Nat} (hE : EgI E n) {a : Int × Int} {tab : List Int} (h : PotE E (wtR a.1 a.2) fun v => tab.getD v 0) : E.any (brk a tab) = false := by
  rw [Bool.eq_false_iff]
  intro hx
  obtain ⟨e, he, h2⟩ := List.any_eq_true.1 hx
  have h3 := of_decide_eq_true h2
  have h4 : gainC a.1 a.2 e + tab.getD (e.getD 1 0).toNat 0 ≤ tab.getD (e.getD 0 0).toNat 0 := h e he
  omega
end Go.Proofs.YtlhdeofkhajigaaGreat
/- What an exact ratio says: the plain laws. Conditions: none. -/
set_option linter.all false
set_option linter.unusedSimpArgs false
set_option linter.unusedVariables false
namespace Go.Proofs.YtlhdeofkhajigaaGreat
open Go Go.RowKit Am

/-- a potential that is told has numbers of at least 0, and fits -/
theorem pt_facts {m s nx : List (List Int)} {x : Int} {a : Int × Int} {w : List Int} (h : ptO m s nx x a = some w) : (prQ m s nx x).2 = false ∧ ratioB a = true ∧ tbB (prQ m s nx x).1.list.length w = true ∧ (PotE (egs (prQ m s nx x).1.rows) (wtR a.1 a.2) fun v => w.getD v 0) ∧ (∀ v, 0 ≤ w.getD v 0 ∧ w.getD v 0 ≤ 100000000000000) ∧ 0 < w.length := by
  unfold ptO at h
  cases hq : (prQ m s nx x).2
  · cases hra : ratioB a
    · rw [hq, hra] at h; cases h
    · rw [hq, hra] at h
      have hF := prQ_full hq
      have h : potT (egs (prQ m s nx x).1.rows) a (prQ m s nx x).1.list.length = some w := h
      generalize (prQ m s nx x).1 = g at h hF ⊢
      obtain ⟨h1, h2, h3, h4⟩ := ratio_ok hra
      have hE := eg_I hF
      have hpos := hF.pos
      have hle := hF.le
      have hW := wt_bd (eg_c hF) (a := a.1) (b := a.2) h1 h2 (by omega) (by omega)
      rcases potT_ok (egs g.rows) a g.list.length with ⟨t, k1, k2⟩ | ⟨k1, k2⟩
      · rw [h] at k2
        cases k2
        obtain ⟨b1, b2, b3, b4⟩ := ends_least (fun s t => BI.jac hE.ed (s := s) (t := t)) k1
        have q3 := k1.1
        have hbd : ∀ v, 0 ≤ (rnd (jxR (wtR a.1 a.2) (egs g.rows)) g.list.length (t + 1)).num.getD v 0 ∧ (rnd (jxR (wtR a.1 a.2) (egs g.rows)) g.list.length (t + 1)).num.getD v 0 ≤ 100000000000000 := fun v => by
          have q1 := b2 v
          have q2 := rndj_bd (W := 100000000000) hE.ed (by omega) (fun e he => (hW e he).2.2) (t + 1) v
          unfold nbN at q1 q2
          have q4 : ((t + 1 : Nat) : Int) * 100000000000 ≤ 601 * 100000000000 := Int.mul_le_mul_of_nonneg_right (by omega) (by omega)
          omega
        refine ⟨rfl, rfl, ?_, b1, hbd, by omega⟩
        unfold tbB
        rw [Bool.and_eq_true, beq_iff_eq, allIn_iff]
        refine ⟨b4, fun y hy => ?_⟩
        obtain ⟨i, hi, rfl⟩ := List.mem_iff_getElem.1 hy
        have := hbd i
        rw [getD_in hi] at this
        omega
      · rw [h] at k2; cases k2
  · rw [hq] at h; cases h
/-- there is a potential, so one is told -/
theorem pt_some {m s nx : List (List Int)} {x : Int} {a : Int × Int} (hq : (prQ m s nx x).2 = false) (ha : ratioB a = true) {L : Nat → Int} (hL : PotE (egs (prQ m s nx x).1.rows) (wtR a.1 a.2) L) : ∃ w, ptO m s nx x a = some w := by
  have hF := prQ_full hq
  unfold ptO
  rw [hq, ha]
  show ∃ w, potT (egs (prQ m s nx x).1.rows) a (prQ m s nx x).1.list.length = some w
  generalize (prQ m s nx x).1 = g at hL hF
  have hE := eg_I hF
  rcases potT_ok (egs g.rows) a g.list.length with ⟨t, _, k2⟩ | ⟨k1, _⟩
  · exact ⟨_, k2⟩
  · exact (never_pot hE.ed (fun s t => BI.jac hE.ed (s := s) (t := t)) k1 hL).elim
/-- a closed walk with a gain leaves no potential -/
theorem pt_none {m s nx : List (List Int)} {x : Int} {a : Int × Int} {v : Nat} {es : List (List Int)} (hw : Wk (egs (prQ m s nx x).1.rows) v es v) (hg : 0 < sumE (wtR a.1 a.2) es) : ptO m s nx x a = none := by
  cases h : ptO m s nx x a with
  | none => rfl
  | some w =>
    have := (pt_facts h).2.2.2.1.closed hw
    omega
/-- what holds for an exact ratio -/
structure ExF (m s nx : List (List Int)) (x : Int) (a : Int × Int) : Prop where
  q : (prQ m s nx x).2 = false
  r : ratioB a = true
  rat : RatI (egs (prQ m s nx x).1.rows) a.1 a.2
  pot : ∃ L, PotE (egs (prQ m s nx x).1.rows) (wtR a.1 a.2) L
theorem ex_facts {m s nx : List (List Int)} {x : Int} (h : (exB m s nx x).2 = true) : ExF m s nx x (exB m s nx x).1 := by
  unfold exB at h ⊢
  cases hq : (prQ m s nx x).2
  · rw [hq] at h
    have hF := prQ_full hq
    simp only [cond_false] at h ⊢
    obtain ⟨h1, h2⟩ := exO_ok (eg_B hF)
    cases ho : exO (egs (prQ m s nx x).1.rows) with
    | none => rw [ho] at h; cases h
    | some p =>
      obtain ⟨a, b⟩ := p
      rw [ho] at h1
      have h3 := h2 a b ho
      exact ⟨hq, rat_ok h3, h3, h1.pot⟩
  · rw [hq] at h; cases h
/-- for smaller ratios there is no potential -/
theorem ex_less {m s nx : List (List Int)} {x : Int} {a : Int × Int} (h : ExF m s nx x a) {l : Int × Int} (h0 : 0 ≤ l.1) (h1 : 1 ≤ l.2) (hlt : l.1 * a.2 < a.1 * l.2) : ptO m s nx x l = none := by
  have hb := h.rat.nb
  rcases h.rat.cyc with ⟨e1, e2⟩ | ⟨v, es, k1, k2, k3⟩
  · rw [e1, e2] at hlt; omega
  · refine pt_none k1 ?_
    rw [sum_wtR]
    have e1 : a.2 * (l.2 * sumE cstE es - l.1 * sumE grwE es) = (a.1 * l.2 - l.1 * a.2) * sumE grwE es := by
      rw [Int.mul_sub, Int.sub_mul, Int.mul_left_comm, k3, ← Int.mul_assoc, ← Int.mul_assoc, Int.mul_comm l.2 a.1, Int.mul_comm a.2 l.1]
    have e2 : 0 < a.2 * (l.2 * sumE cstE es - l.1 * sumE grwE es) := by
      rw [e1]
      exact Int.mul_pos (by omega) k2
    exact Int.pos_of_mul_pos_right e2 (by omega)
/-- the potential bounds the cost by the least cost -/
theorem ex_bound {m s nx : List (List Int)} {x : Int} {a : Int × Int} {w : List Int} (h : ptO m s nx x a = some w) {rs : List Int} (hc : acB m s nx x rs = true) : a.2 * costS m s nx x.toNat rs + w.getD (afterE (egs (prQ m s nx x).1.rows) s.length 0 rs) 0 ≤ a.1 * optM m s x.toNat rs + w.getD 0 0 := by
  obtain ⟨hq, ha, _, hL, hbd, _⟩ := pt_facts h
  obtain ⟨k, rfl, hk, hp, hal, hw, hW⟩ := prQ_w hq
  unfold acB at hc
  rw [Bool.and_eq_true] at hc
  obtain ⟨_, _, hrs, hl⟩ := takes_ok hc.1
  exact pot_bound hp hal (prQ_full hq) hw hW hk hrs (by omega) hL
end Go.Proofs.YtlhdeofkhajigaaGreat
/- The law on ratios, on the machine. Conditions: bytes are bytes. -/
set_option linter.all false
set_option linter.unusedSimpArgs false
set_option linter.unusedVariables false
namespace Go.Proofs.YtlhdeofkhajigaaGreat
open Go Go.RowKit Am

theorem drawRatio_x {bs : List Int} (hb : ∀ b ∈ bs, 0 ≤ b ∧ b < 256) : ∃ m s a x rs, Does Tryz.prog 19 [.lf (.b (.raw bs))] (.imm (acR m s a x rs)) := by
  obtain ⟨m, s, a, x, rs, hD⟩ := drawAlg_x hb
  refine ⟨m, s, a, x, rs, ?_⟩
  refine spec_imm Tryz.func19 rfl Tryz.ntmps19 cfOK (fun _ _ => by kernel_rfl) rfl (Nat.le_of_ble_eq_true rfl) ?_
  intro M0 w0
  rw [Tryz.results19]
  refine amGo ?_
  ((try refine Or.inl ?_); refine ⟨_, (hD), amF, ?_⟩; refine amC ?_)
  refine amGo ?_
  (simp only [xec, simprocAttr]; refine ⟨[_, _, _, _], ⟨⟨amK, rfl⟩, rfl, rfl, rfl, trivial⟩, rfl, Imp.eq ?_⟩)
  rfl
section
variable {m s nx : List (List Int)} {x : Int} {a : Int × Int} {w : List Int}
theorem fp_i (h : ptO m s nx x a = some w) : Does Tryz.prog 22 [prA m s, .sl (.ii nx), .int x, frA a] (.imm (.tup [.one (.b (.sl (.ints w))), .one (.b (.val (.bool true)))])) := by
  have h1 := imm_of (impl_FindPotential_v m s nx x a)
  rw [h] at h1
  exact h1
theorem fp_0 (h : ptO m s nx x a = none) : Does Tryz.prog 22 [prA m s, .sl (.ii nx), .int x, frA a] (.imm (.tup [.one (.b (.val (.slice none 0 0))), .one (.b (.val (.bool false)))])) := by
  have h1 := imm_of (impl_FindPotential_v m s nx x a)
  rw [h] at h1
  exact h1
theorem fp_s (h : ptO m s nx x a = some w) : Does Tryz.prog 23 [prA m s, .sl (.ii nx), .int x, frA a] (.imm (.tup [.one (.b (.sl (.ints w))), .one (.b (.val (.bool true)))])) := by
  have h1 := spec_FindPotential_v m s nx x a
  rw [h] at h1
  exact h1
end
theorem walkR_big {bs : List Int} (h : 65536 < (bs.length : Int)) : Does Tryz.prog 4 [.lf (.b (.raw bs))] (.imm (.bool true)) := by
  refine spec_imm Tryz.func4 rfl Tryz.ntmps4 cfOK (fun _ _ => by kernel_rfl) rfl (Nat.le_of_ble_eq_true rfl) ?_
  intro M0 w0
  rw [Tryz.results4]
  refine amGo ?_
  ((try refine Or.inl ?_); refine ⟨_, (rBig_d bs), .inl rfl, ?_⟩; refine amC ?_)
  refine amGo ?_
  refine awp_cond amQ (fun h0 => ?_) (fun h0 => ?_)
  · refine amGo ?_
    (simp only [xe, simprocAttr]; refine ⟨_, rfl, rfl, Imp.eq ?_⟩)
    rfl
  · simp at h0; omega
theorem walkR_bad {bs : List Int} {m s nx : List (List Int)} {x : Int} {rs : List Int} (hsm : ¬ 65536 < (bs.length : Int)) (hD : Does Tryz.prog 19 [.lf (.b (.raw bs))] (.imm (acR m s nx x rs))) (hb : (exB m s nx x).2 = false) : Does Tryz.prog 4 [.lf (.b (.raw bs))] (.imm (.bool true)) := by
  have hE := impl_ExactRatio_d m s nx x
  have hS := spec_ExactRatio_d m s nx x
  rw [hb] at hE hS
  generalize (exB m s nx x).1 = a at hE hS
  obtain ⟨a, b⟩ := a
  refine spec_imm Tryz.func4 rfl Tryz.ntmps4 cfOK (fun _ _ => by kernel_rfl) rfl (Nat.le_of_ble_eq_true rfl) ?_
  intro M0 w0
  rw [Tryz.results4]
  refine amGo ?_
  ((try refine Or.inl ?_); refine ⟨_, (rBig_d bs), .inl rfl, ?_⟩; refine amC ?_)
  refine amGo ?_
  refine awp_cond amQ (fun h0 => ?_) (fun h0 => ?_)
  · simp at h0; omega
  refine amGo ?_
  ((try refine Or.inl ?_); refine ⟨_, (hD), amF, ?_⟩; refine amC ?_)
  refine amGo ?_
  ((try refine Or.inl ?_); refine ⟨_, (hE), .inl rfl, ?_⟩; refine amC ?_)
  refine amGo ?_
  ((try refine Or.inl ?_); refine ⟨_, (hS), .inl rfl, ?_⟩; refine amC ?_)
  refine amGo ?_
  refine awp_cond amQ (fun h1 => ?_) (fun h1 => ?_)
  · simp at h1
  refine amGo ?_
  refine awp_cond amQ (fun h2 => ?_) (fun h2 => ?_)
  · refine amGo ?_
    (simp only [xe, simprocAttr]; refine ⟨_, rfl, rfl, Imp.eq ?_⟩)
    rfl
  · simp at h2
/-- what the law needs of an exact ratio and its numbers -/
structure RtF (m s nx : List (List Int)) (x : Int) (rs : List Int) (a : Int × Int) (w : List Int) : Prop where
  pt : ptO m s nx x a = some w
  wl : 0 < w.length
  w0 : 0 ≤ w.getD 0 0 ∧ w.getD 0 0 ≤ 100000000000000
  r : 0 ≤ a.1 ∧ a.1 ≤ 71400 ∧ 1 ≤ a.2 ∧ a.2 ≤ 71400
  fr : frB a.1 a.2 = true
  ip : ipO m s nx x a = true ∧ ipB m s nx x a w = true
  less : ∀ l : Int × Int, 0 ≤ l.1 → 1 ≤ l.2 → l.1 * a.2 < a.1 * l.2 → ptO m s nx x l = none
  le : acB m s nx x rs = true → a.2 * costS m s nx x.toNat rs ≤ a.1 * optM m s x.toNat rs + w.getD 0 0
  ac : acB m s nx x rs = takesB m s x rs
theorem rt_facts {m s nx : List (List Int)} {x : Int} (rs : List Int) (h : (exB m s nx x).2 = true) : ∃ w, RtF m s nx x rs (exB m s nx x).1 w := by
  have hF := ex_facts h
  generalize (exB m s nx x).1 = a at hF
  obtain ⟨L, hL⟩ := hF.pot
  obtain ⟨w, hw⟩ := pt_some hF.q hF.r hL
  obtain ⟨k1, k2, k3, k4, k5, k6⟩ := pt_facts hw
  obtain ⟨k, _, _, _, hal, _, _⟩ := prQ_w hF.q
  have hr := hF.r
  unfold ratioB at hr
  rw [Bool.and_eq_true] at hr
  refine ⟨w, hw, k6, k5 0, ⟨hF.rat.na, hF.rat.ma, hF.rat.nb, hF.rat.mb⟩, hr.1, ⟨?_, ?_⟩, fun l h0 h1 hlt => ex_less hF h0 h1 hlt, fun hc => ?_, ?_⟩
  · unfold ipO
    rw [k1, k2]
    rfl
  · unfold ipB
    rw [k3, ip_pot (eg_I (prQ_full k1)) k4]
    rfl
  · have h1 := ex_bound hw hc
    have h2 := (k5 (afterE (egs (prQ m s nx x).1.rows) s.length 0 rs)).1
    omega
  · unfold acB
    rw [hal, Bool.and_true]
/-- the ratio less a twentieth -/
theorem less_fr {a : Int × Int} (hf : frB a.1 a.2 = true) : Does Tryz.prog 25 [frA a, frA (1, 20)] (.imm (.tup [frT (mkFr (a.1 * 20 - a.2) (a.2 * 20)), blT (mkOk (a.1 * 20 - a.2) (a.2 * 20))])) := by
  have h1 := (frB_iff.1 hf).1
  have h2 := subFracs_f (a := a) (b := (1, 20)) (A := a.1 * 20) (B := a.2) (D := a.2 * 20) ⟨hf, by rw [Int.mul_right_comm, ← Int.mul_assoc, Int.mul_right_comm], by omega⟩ ⟨by decide, by show 1 * (a.2 * 20) = a.2 * 20; omega, by omega⟩
  exact h2
theorem less_lt {a : Int × Int} (hb : 1 ≤ a.2) (h : mkOk (a.1 * 20 - a.2) (a.2 * 20) = true) : 1 ≤ (mkFr (a.1 * 20 - a.2) (a.2 * 20)).2 ∧ (mkFr (a.1 * 20 - a.2) (a.2 * 20)).1 * a.2 < a.1 * (mkFr (a.1 * 20 - a.2) (a.2 * 20)).2 := by
  have h1 := isFr_mk (by omega) h
  have h2 := h1.bd
  have h3 := h1.eq
  generalize mkFr (a.1 * 20 - a.2) (a.2 * 20) = l at *
  refine ⟨h2.1, ?_⟩
  have e1 : l.1 * (a.2 * 20) = l.1 * a.2 * 20 := by rw [Int.mul_assoc]
  have e2 : (a.1 * 20 - a.2) * l.2 = a.1 * l.2 * 20 - a.2 * l.2 := by rw [Int.sub_mul, Int.mul_right_comm]
  have e3 : 0 < a.2 * l.2 := Int.mul_pos (by omega) (by omega)
  omega
theorem roV_bd {m s nx : List (List Int)} {x : Int} {rs : List Int} : (-100000000 ≤ (roV m s nx x rs).1.1 ∧ (roV m s nx x rs).1.1 ≤ 100000000 ∧ 0 ≤ (roV m s nx x rs).1.2 ∧ (roV m s nx x rs).1.2 ≤ 100000) ∧ ((roV m s nx x rs).2 = true → (roV m s nx x rs).1.1 * optM m s x.toNat rs = costS m s nx x.toNat rs * (roV m s nx x rs).1.2) := by
  unfold roV
  cases hc : (acB m s nx x rs && !decide (optM m s x.toNat rs = 0))
  · exact ⟨by simp, fun h => by cases h⟩
  · rw [Bool.and_eq_true, Bool.not_eq_true', decide_eq_false_iff_not] at hc
    obtain ⟨h1, h2⟩ := hc
    unfold acB at h1
    rw [Bool.and_eq_true] at h1
    obtain ⟨hp, ⟨k, rfl, hk⟩, hq, hl⟩ := takes_ok h1.1
    rw [Int.toNat_natCast] at h2 ⊢
    have h3 := opt_bd hp hk hq hl
    simp only [cond_true]
    generalize optM m s k rs = o at *
    generalize costS m s nx k rs = c at *
    cases hm : mkOk c o
    · have e : mkFr c o = (0, 0) := by unfold mkFr; rw [hm]; rfl
      rw [e]
      exact ⟨by decide, fun h => by cases h⟩
    · have h4 := isFr_mk (by omega) hm
      have h5 := h4.bd
      exact ⟨⟨h5.2.2.1, h5.2.2.2, by omega, h5.2.1⟩, fun _ => h4.eq⟩
theorem xcB_bd {m s nx : List (List Int)} {x : Int} {a : Int × Int} {w : List Int} (h : ptO m s nx x a = some w) (hb : 1 ≤ a.2) (hb2 : a.2 ≤ 71400) : (-10000000000000 ≤ (xcB m s nx x a).1.1 * a.2 ∧ (xcB m s nx x a).1.1 * a.2 ≤ 10000000000000 ∧ w.getD 0 0 * (xcB m s nx x a).1.2 = (xcB m s nx x a).1.1 * a.2) := by
  unfold xcB
  rw [h]
  dsimp only
  cases hm : mkOk (w.getD 0 0) a.2
  · have e : mkFr (w.getD 0 0) a.2 = (0, 0) := by unfold mkFr; rw [hm]; rfl
    rw [e]
    simp
  · have h4 := isFr_mk (by omega) hm
    have h5 := h4.bd
    have h6 := h4.eq
    generalize mkFr (w.getD 0 0) a.2 = f at *
    have h7 := mul_bd (x := f.1) (y := a.2) (X := 100000000) (Y := 100000) ⟨by omega, by omega⟩ ⟨by omega, by omega⟩
    exact ⟨by omega, by omega, h6.symm⟩
set_option maxRecDepth 20000 in
set_option maxHeartbeats 4000000 in
theorem walkR_good {bs : List Int} {m s nx : List (List Int)} {x : Int} {rs : List Int} (hsm : ¬ 65536 < (bs.length : Int)) (hD : Does Tryz.prog 19 [.lf (.b (.raw bs))] (.imm (acR m s nx x rs))) (hb : (exB m s nx x).2 = true) : Does Tryz.prog 4 [.lf (.b (.raw bs))] (.imm (.bool true)) := by
  have hE := impl_ExactRatio_d m s nx x
  have hS := spec_ExactRatio_d m s nx x
  obtain ⟨w, hpt, hwl, hw0, ⟨r1, r2, r3, r4⟩, hfr, ⟨hi1, hi2⟩, hless, hle, hac⟩ := rt_facts rs hb
  rw [hb] at hE hS
  generalize (exB m s nx x).1 = a at *
  have hP := fp_i hpt
  have hQ := fp_s hpt
  have hI := impl_IsPotential_d m s nx x a w
  rw [hi1, hi2] at hI
  have hL := less_fr hfr
  have hLl := less_lt (a := a) r3
  have hX := impl_ExtraCost_d m s nx x a
  have hY := spec_ExtraCost_d m s nx x a
  obtain ⟨q1, q2, q3⟩ := xcB_bd hpt r3 r4
  have hO := impl_RatioOn_d m s nx x rs
  have hO2 := spec_RatioOn_d m s nx x rs
  obtain ⟨⟨o1, o2, o3, o4⟩, o5⟩ := roV_bd (m := m) (s := s) (nx := nx) (x := x) (rs := rs)
  have hA := impl_AlgorithmCost_v m s nx x rs
  have hA2 := spec_AlgorithmCost_v m s nx x rs
  have hK := impl_LeastCost_v m s x rs
  have hlb : 0 ≤ lcV m s x rs ∧ lcV m s x rs ≤ 10000 := by
    unfold lcV
    cases ht : takesB m s x rs
    · simp
    · obtain ⟨hp, ⟨k, rfl, hk⟩, hq, hl⟩ := takes_ok ht
      exact opt_bd hp hk hq hl
  have hcb : 0 ≤ acV m s nx x rs ∧ acV m s nx x rs ≤ 10000 := by
    unfold acV
    cases ht : acB m s nx x rs
    · simp
    · unfold acB at ht
      rw [Bool.and_eq_true] at ht
      obtain ⟨hp, ⟨k, rfl, hk⟩, hq, hl⟩ := takes_ok ht.1
      have := costS_bd hp ht.2 rs k hk hq
      rw [Int.toNat_natCast]
      simp only [cond_true]
      omega
  have hon : ((roV m s nx x rs).2 && !decide ((roV m s nx x rs).1.1 * lcV m s x rs = acV m s nx x rs * (roV m s nx x rs).1.2)) = false := by
    cases ht : (roV m s nx x rs).2
    · rfl
    · have h1 := o5 ht
      have h2 : acB m s nx x rs = true := by
        cases hc : acB m s nx x rs
        · unfold roV at ht; rw [hc] at ht; cases ht
        · rfl
      unfold lcV acV
      rw [← hac, h2]
      simp only [cond_true]
      rw [decide_eq_true h1]
      rfl
  have hfin : acB m s nx x rs = true → a.2 * acV m s nx x rs ≤ a.1 * lcV m s x rs + w.getD 0 0 := fun h2 => by
    have := hle h2
    unfold lcV acV
    rw [← hac, h2]
    exact this
  rw [← hac] at hK
  clear hle o5 hb hac
  generalize acB m s nx x rs = bo at *
  generalize acV m s nx x rs = co at *
  generalize lcV m s x rs = lo at *
  generalize (roV m s nx x rs).2 = ro at *
  generalize (roV m s nx x rs).1 = rr at *
  generalize (xcB m s nx x a).2 = xo at *
  generalize (xcB m s nx x a).1 = xx at *
  generalize mkOk (a.1 * 20 - a.2) (a.2 * 20) = lk at *
  generalize mkFr (a.1 * 20 - a.2) (a.2 * 20) = ll at *
  obtain ⟨a, b⟩ := a
  obtain ⟨p, q⟩ := ll
  have p1 := mul_bd (x := rr.1) (y := lo) (X := 100000000) (Y := 100000) ⟨by omega, by omega⟩ ⟨by omega, by omega⟩
  have p2 := mul_bd (x := co) (y := rr.2) (X := 100000000) (Y := 100000) ⟨by omega, by omega⟩ ⟨by omega, by omega⟩
  have p3 := mul_bd (x := b) (y := co) (X := 100000000) (Y := 100000) ⟨by omega, by omega⟩ ⟨by omega, by omega⟩
  have p4 := mul_bd (x := a) (y := lo) (X := 100000000) (Y := 100000) ⟨by omega, by omega⟩ ⟨by omega, by omega⟩
  refine spec_imm Tryz.func4 rfl Tryz.ntmps4 cfOK (fun _ _ => by kernel_rfl) rfl (Nat.le_of_ble_eq_true rfl) ?_
  intro M0 w0
  rw [Tryz.results4]
  refine amGo ?_
  ((try refine Or.inl ?_); refine ⟨_, (rBig_d bs), .inl rfl, ?_⟩; refine amC ?_)
  refine amGo ?_
  refine awp_cond amQ (fun h0 => ?_) (fun h0 => ?_)
  · simp at h0; omega
  refine amGo ?_
  ((try refine Or.inl ?_); refine ⟨_, (hD), amF, ?_⟩; refine amC ?_)
  refine amGo ?_
  ((try refine Or.inl ?_); refine ⟨_, (hE), .inl rfl, ?_⟩; refine amC ?_)
  refine amGo ?_
  ((try refine Or.inl ?_); refine ⟨_, (hS), .inl rfl, ?_⟩; refine amC ?_)
  refine amGo ?_
  refine awp_cond amQ (fun h1 => ?_) (fun h1 => ?_)
  · simp at h1
  refine amGo ?_
  refine awp_cond amQ (fun h2 => ?_) (fun h2 => ?_)
  · simp at h2
  refine amGo ?_
  ((try refine Or.inl ?_); refine ⟨_, (hP), amF, ?_⟩; refine amC ?_)
  refine amGo ?_
  ((try refine Or.inl ?_); refine ⟨_, (hQ), amF, ?_⟩; refine amC ?_)
  refine amGo ?_
  ((try refine Or.inl ?_); refine ⟨_, (rInts_s w), .inl rfl, ?_⟩; refine amC ?_)
  refine amGo ?_
  refine awp_cond amQ (fun h3 => ?_) (fun h3 => ?_)
  · simp at h3
  refine amGo ?_
  ((try refine Or.inl ?_); refine ⟨_, (hI), .inl rfl, ?_⟩; refine amC ?_)
  refine amGo ?_
  refine awp_cond amQ (fun h4 => ?_) (fun h4 => ?_)
  · simp at h4
  refine amGo ?_
  ((try refine Or.inl ?_); refine ⟨_, (hL), .inl rfl, ?_⟩; refine amC ?_)
  refine amGo ?_
  refine awp_mid [] [3, 4, 5, 6, 7, 11] [.box [.b (.sl (.ii m)), .b (.sl (.ii s))], .box [.b (.val (.int .i64 a)), .b (.val (.int .i64 b))], .box [.b (.val (.int .i64 a)), .b (.val (.int .i64 b))], .box [.b (.val (.int .i64 p)), .b (.val (.int .i64 q))]] ?_ ?_
  · refine awp_cond amQ (fun h5 => ?_) (fun h5 => ?_)
    · have h6 : lk = true ∧ 0 ≤ p := by
        cases lk
        · simp at h5
        · simpa using h5
      obtain ⟨h7, h8⟩ := hLl h6.1
      have hN := fp_0 (hless (p, q) h6.2 h7 h8)
      refine amGo ?_
      ((try refine Or.inl ?_); refine ⟨_, (hN), .inl rfl, ?_⟩; refine amC ?_)
      refine amGo ?_
      refine awp_cond amQ (fun h9 => ?_) (fun h9 => ?_)
      · simp at h9
      refine amGo ?_
      refine .inl ?_
      ((try simp only [xk]); (repeat (refine leK_cons ?_ ?_; first | (exact amE) | rotate_left)); (try exact leK_nil rfl); (all_goals (try (simp only [xr, simprocAttr]; try refine int_eq1 ?_))))
    · refine amGo ?_
      refine .inl ?_
      ((try simp only [xk]); (repeat (refine leK_cons ?_ ?_; first | (exact amE) | rotate_left)); (try exact leK_nil rfl); (all_goals (try (simp only [xr, simprocAttr]; try refine int_eq1 ?_))))
  simp only [] at q1 q2 q3 p3 hfin
  simp only [xr, simprocAttr]
  refine amGo ?_
  ((try refine Or.inl ?_); refine ⟨_, (hX), .inl rfl, ?_⟩; refine amC ?_)
  refine amGo ?_
  ((try refine Or.inl ?_); refine ⟨_, (hY), .inl rfl, ?_⟩; refine amC ?_)
  refine amGo ?_
  refine awp_cond amQ (fun h10 => ?_) (fun h10 => ?_)
  · rw [q3] at h10
    simp at h10
  refine amGo ?_
  ((try refine Or.inl ?_); refine ⟨_, (hO), .inl rfl, ?_⟩; refine amC ?_)
  refine amGo ?_
  ((try refine Or.inl ?_); refine ⟨_, (hO2), .inl rfl, ?_⟩; refine amC ?_)
  refine amGo ?_
  refine awp_cond amQ (fun h11 => ?_) (fun h11 => ?_)
  · simp at h11
  refine amGo ?_
  ((try refine Or.inl ?_); refine ⟨_, (hA), .inl rfl, ?_⟩; refine amC ?_)
  refine amGo ?_
  ((try refine Or.inl ?_); refine ⟨_, (hK), .inl rfl, ?_⟩; refine amC ?_)
  refine amGo ?_
  ((try refine Or.inl ?_); refine ⟨_, (hA2), .inl rfl, ?_⟩; refine amC ?_)
  refine amGo ?_
  refine awp_cond amQ (fun h12 => ?_) (fun h12 => ?_)
  · simp at h12
  refine amGo ?_
  refine awp_cond amQ (fun h13 => ?_) (fun h13 => ?_)
  · cases ro
    · cases h13
    · have h14 : rr.1 * lo = co * rr.2 := by simpa using hon
      rw [h14] at h13
      simp at h13
  refine amGo ?_
  (simp only [xe, simprocAttr]; refine ⟨_, rfl, rfl, Imp.eq ?_⟩)
  cases bo
  · rfl
  · rw [decide_eq_true (hfin rfl)]
    rfl
end Go.Proofs.YtlhdeofkhajigaaGreat
