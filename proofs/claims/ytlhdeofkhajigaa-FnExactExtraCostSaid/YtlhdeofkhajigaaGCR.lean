/- Choices of games on the machine: small facts. Conditions: games that are whole. -/
import Derived.Test.YtlhdeofkhajigaaGB
import Derived.Test.YtlhdeofkhajigaaGA
import Derived.Test.YtlhdeofkhajigaaGFR
import Derived.Test.YtlhdeofkhajigaaGSC
set_option linter.all false
set_option linter.unusedSimpArgs false
set_option linter.unusedVariables false
namespace Go.Proofs.Ytlhdeofkhajigaa
open Go Go.RowKit Am

abbrev bT (b : Bool) : TV := .one (.b (.val (.bool b)))
theorem map_at {α β : Type} {f : α → β} {xs : List α} {k : Nat} (h : k < xs.length) (d : α) (d' : β) : (xs.map f).getD k d' = f (xs.getD k d) := by simp [h]
theorem ch4_at {ch : List (List (List (List Int)))} {i : Nat} (h : i < ch.length) : (ch4 ch).getD i [] = (ch.getD i []).map fun r => r.map c4 := map_at h [] []
theorem ch4_at2 {ch : List (List (List (List Int)))} {i r : Nat} (h : i < ch.length) (hr : r < (ch.getD i []).length) : ((ch4 ch).getD i []).getD r [] = ((ch.getD i []).getD r []).map c4 := by
  rw [ch4_at h]
  exact map_at hr [] []
theorem all_no {α : Type} {p : α → Bool} {xs : List α} {i : Nat} (hi : i < xs.length) (d : α) (h : p (xs.getD i d) = false) : xs.all p = false := by
  rw [Bool.eq_false_iff]
  intro e
  have := List.all_eq_true.1 e (xs.getD i d) (by rw [getD_in hi]; exact List.getElem_mem hi)
  rw [h] at this
  cases this
theorem gmQ_eq {m s : List (List Int)} {y : Nat} (h : takesB m s y [] = true) : gmQ m s y = gm m s y := by unfold gmQ; rw [h, Int.toNat_natCast]; rfl
theorem gmQ_takes {m s : List (List Int)} {x : Int} (h : (gmQ m s x).2 = false) : takesB m s x [] = true := by
  cases e : takesB m s x []
  · rw [gmQ_bad e] at h; cases h
  · rfl
theorem gmQ_full {m s : List (List Int)} {x : Int} (h : (gmQ m s x).2 = false) : GmFull m s (gmQ m s x).1 := by
  have ht := gmQ_takes h
  obtain ⟨hp, ⟨y, rfl, hy⟩, -, -⟩ := takes_ok ht
  rw [gmQ_eq ht] at h ⊢
  exact gm_full hp hy h
abbrev six (c : List Int) : AV := .tv (.agg [.b (.val (.int .i64 (c.getD 0 0))), .b (.val (.int .i64 (c.getD 1 0))), .b (.val (.int .i64 (c.getD 2 0))), .b (.val (.int .i64 (c.getD 3 0))), .b (.val (.int .i64 (c.getD 4 0))), .b (.val (.int .i64 (c.getD 5 0)))])
end Go.Proofs.Ytlhdeofkhajigaa
/- Ratios, and lists of numbers for positions, on the machine. Conditions: games that are whole. -/
set_option linter.all false
set_option linter.unusedSimpArgs false
set_option linter.unusedVariables false
namespace Go.Proofs.Ytlhdeofkhajigaa
open Go Go.RowKit Am

abbrev gA (g : GmT) (b : Bool) : AV := .tv (.agg [.b (.sl (.k 2 g.list)), .b (.sl (.kii 4 (ch4 g.ch))), .b (.val (.bool b))])
abbrev gI (g : GmT) : AV := .lf (.ip [.sl (.k 2 g.list), .sl (.kii 6 g.ch)] 0)
/-- a fraction that is at least 0 -/
def ratioB (a : Int × Int) : Bool := frB a.1 a.2 && decide (0 ≤ a.1)
theorem ratio_ok {a : Int × Int} (h : ratioB a = true) : 0 ≤ a.1 ∧ a.1 ≤ 100000000 ∧ 1 ≤ a.2 ∧ a.2 ≤ 100000 := by
  unfold ratioB at h
  rw [Bool.and_eq_true, frB_iff, decide_eq_true_eq] at h
  obtain ⟨⟨h1, h2, h3, h4, -⟩, h5⟩ := h
  exact ⟨h5, h4, h1, h2⟩
theorem isFrac_d (n d : Int) : Does Try.prog 61 [frA (n, d)] (.imm (.bool (frB n d))) :=
  does_val (v := .bool (frB n d)) (fun _ _ => by kernel_rfl) fun M w us hm ha => by
    obtain ⟨u, us', rfl, k1, k2⟩ := args_inv ha
    obtain rfl := args_inv0 k2
    obtain ⟨a, b, rfl, h1, h2⟩ := ls_two k1
    obtain rfl : a = .int .i64 n := h1
    obtain rfl : b = .int .i64 d := h2
    exact isFrac_any w n d
theorem l2Good_d (n d : Int) : Does Try.prog 55 [frA (n, d)] (.imm (.bool (frB n d))) :=
  does_val (v := .bool (frB n d)) (fun _ _ => by kernel_rfl) fun M w us hm ha => by
    obtain ⟨u, us', rfl, k1, k2⟩ := args_inv ha
    obtain rfl := args_inv0 k2
    obtain ⟨a, b, rfl, h1, h2⟩ := ls_two k1
    obtain rfl : a = .int .i64 n := h1
    obtain rfl : b = .int .i64 d := h2
    exact l2Good_any w n d
theorem isRatio_d (a : Int × Int) : Does Try.prog 35 [frA a] (.imm (.bool (ratioB a))) := by
  refine spec_imm Try.func35 rfl Try.ntmps35 cfOK (fun _ _ => by kernel_rfl) rfl (Nat.le_of_ble_eq_true rfl) ?_
  intro M0 w0
  rw [Try.results35]
  refine amGo ?_
  ((try refine Or.inl ?_); refine ⟨_, (isFrac_d a.1 a.2), .inl rfl, ?_⟩; refine amC ?_)
  refine amGo ?_
  (simp only [xe, simprocAttr]; refine ⟨_, rfl, rfl, Imp.eq ?_⟩)
  show AV.bool _ = AV.bool _
  simp only [Bool.cond_false_right]
  rfl
theorem l9Ratio_d (a : Int × Int) : Does Try.prog 31 [frA a] (.imm (.bool (ratioB a))) := by
  refine spec_imm Try.func31 rfl Try.ntmps31 cfOK (fun _ _ => by kernel_rfl) rfl (Nat.le_of_ble_eq_true rfl) ?_
  intro M0 w0
  rw [Try.results31]
  refine amGo ?_
  ((try refine Or.inl ?_); refine ⟨_, (l2Good_d a.1 a.2), .inl rfl, ?_⟩; refine amC ?_)
  refine amGo ?_
  (simp only [xe, simprocAttr]; refine ⟨_, rfl, rfl, Imp.eq ?_⟩)
  show AV.bool _ = AV.bool _
  simp only [Bool.cond_false_right]
  rfl
theorem areBelow1_d (x n : Int) (hn : -9223372036854775807 ≤ n ∧ n ≤ 9223372036854775807) : Does Try.prog 115 [.int x, .lf (.ip [.val (.int .i64 n)] 0)] (.imm (.bool (!rng x 0 (n - 1)))) := by
  refine spec_imm Try.func115 rfl Try.ntmps115 cfOK (fun _ _ => by kernel_rfl) rfl (Nat.le_of_ble_eq_true rfl) ?_
  intro M0 w0
  rw [Try.results115]
  refine amGo ?_
  ((try refine Or.inl ?_); refine ⟨_, (within_d _ _ _), .inl rfl, ?_⟩; refine amC ?_)
  refine amGo ?_
  (simp only [xe, simprocAttr]; refine ⟨_, rfl, rfl, Imp.eq ?_⟩)
  rfl
theorem areBelow_d (n : Int) (xs : List Int) (hn : -9223372036854775807 ≤ n ∧ n ≤ 9223372036854775807) : Does Try.prog 104 [.int n, .sl (.ints xs)] (.imm (.bool (allIn 0 (n - 1) xs))) := by
  refine spec_imm Try.func104 rfl Try.ntmps104 cfOK (fun _ _ => by kernel_rfl) rfl (Nat.le_of_ble_eq_true rfl) ?_
  intro M0 w0
  rw [Try.results104]
  refine amGo ?_
  ((try refine Or.inl ?_); refine ⟨_, (containsFuncI_d xs _ [.ip [.val (.int .i64 n)] 0] (fun x => !rng x 0 (n - 1)) rfl fun j hj => areBelow1_d _ n hn), .inl rfl, ?_⟩; refine amC ?_)
  refine amGo ?_
  (simp only [xe, simprocAttr]; refine ⟨_, rfl, rfl, Imp.eq ?_⟩)
  show AV.bool _ = AV.bool _
  congr 1
  rw [List.not_any_eq_all_not]
  simp [allIn]
def tbB (n : Nat) (tab : List Int) : Bool := (tab.length == n) && allIn 0 1000000000000000 tab
theorem toFrac_d (a : Int × Int) : Does Try.prog 12 [frA a] (.imm (frA a)) := by
  refine spec_imm Try.func12 rfl Try.ntmps12 cfOK (fun _ _ => by kernel_rfl) rfl (Nat.le_of_ble_eq_true rfl) ?_
  intro M0 w0
  rw [Try.results12]
  refine amGo ?_
  (simp only [xec, simprocAttr]; refine ⟨_, ⟨amK, rfl⟩, rfl, Imp.eq ?_⟩)
  rfl
end Go.Proofs.Ytlhdeofkhajigaa
/- Credits of games on the machine. Conditions: games that are whole. -/
set_option linter.all false
set_option linter.unusedSimpArgs false
set_option linter.unusedVariables false
namespace Go.Proofs.Ytlhdeofkhajigaa
open Go Go.RowKit Am

abbrev four (c : List Int) : AV := .tv (.agg [.b (.val (.int .i64 (c.getD 0 0))), .b (.val (.int .i64 (c.getD 1 0))), .b (.val (.int .i64 (c.getD 2 0))), .b (.val (.int .i64 (c.getD 3 0)))])
theorem gain_d (c : List Int) (a : Int × Int) (h1 : 0 ≤ a.2 * c.getD 2 0) (h2 : a.2 * c.getD 2 0 ≤ 1000000000000000) (h3 : 0 ≤ a.1 * c.getD 3 0) (h4 : a.1 * c.getD 3 0 ≤ 1000000000000000) : Does Try.prog 64 [four c, frA a] (.imm (.int (gainC a.1 a.2 c))) := by
  refine spec_imm Try.func64 rfl Try.ntmps64 cfOK (fun _ _ => by kernel_rfl) rfl (Nat.le_of_ble_eq_true rfl) ?_
  intro M0 w0
  rw [Try.results64]
  refine amGo ?_
  (simp only [xe, simprocAttr]; refine ⟨_, rfl, rfl, Imp.eq ?_⟩)
  rfl
/-- what is known of a choice, a ratio and a table -/
structure AllowK (a : Int × Int) (tab : List Int) (i : Nat) (c : List Int) : Prop where
  fr : c.getD 0 0 = i
  to : c.getD 1 0 = (toC c : Int)
  il : i < tab.length
  tl : toC c < tab.length
  i0 : 0 ≤ tab.getD i 0 ∧ tab.getD i 0 ≤ 1000000000000000
  t0 : 0 ≤ tab.getD (toC c) 0 ∧ tab.getD (toC c) 0 ≤ 1000000000000000
  g1 : 0 ≤ a.2 * c.getD 2 0
  g2 : a.2 * c.getD 2 0 ≤ 119000000000
  g3 : 0 ≤ a.1 * c.getD 3 0
  g4 : a.1 * c.getD 3 0 ≤ 100000000000000
  r0 : 0 ≤ c.getD 3 0 ∧ c.getD 3 0 ≤ 100000
theorem tab_at {n : Nat} {tab : List Int} (h : tbB n tab = true) {j : Nat} (hj : j < n) : j < tab.length ∧ 0 ≤ tab.getD j 0 ∧ tab.getD j 0 ≤ 1000000000000000 := by
  unfold tbB at h
  rw [Bool.and_eq_true, beq_iff_eq, allIn_iff] at h
  have hj' : j < tab.length := by omega
  have := h.2 (tab.getD j 0) (by rw [getD_in hj']; exact List.getElem_mem hj')
  exact ⟨hj', this⟩
theorem allow_k {m : List (List Int)} {n i r : Nat} {c : List Int} (hc : elOK m n i r c) {a : Int × Int} (ha : ratioB a = true) {tab : List Int} (ht : tbB n tab = true) (hi : i < n) : AllowK a tab i c := by
  have h1 := ratio_ok ha
  obtain ⟨k1, k2, k3, _, _, k6, k7, k8, k9, k10, k11⟩ := gain_bd hc (num := a.1) (den := a.2) (by omega) (by omega) (by omega) (by omega)
  have h2 := tab_at ht hi
  have h3 := tab_at ht k1
  exact ⟨k3, k2, h2.1, h3.1, h2.2, h3.2, k8, k9, k10, k11, k6, k7⟩
theorem creditB_iff {g : GmT} {num den : Int} {tab : List Int} : creditB g num den tab = true ↔ tableB1 g tab = true ∧ ∀ i, i < g.ch.length → ∀ r, r < (g.ch.getD i []).length → ((g.ch.getD i []).getD r []).any (allowC num den tab i) = true := by
  unfold creditB
  rw [Bool.and_eq_true, List.all_eq_true]
  refine and_congr_right fun _ => ⟨fun h i hi r hr => ?_, fun h i hi => ?_⟩
  · have h1 := List.all_eq_true.1 (h i (List.mem_range.2 hi)) ((g.ch.getD i []).getD r []) (by rw [getD_in hr]; exact List.getElem_mem hr)
    exact h1
  · rw [List.mem_range] at hi
    refine List.all_eq_true.2 fun row hrow => ?_
    obtain ⟨r, hr, rfl⟩ := List.getElem_of_mem hrow
    have h1 := h i hi r hr
    rwa [getD_in hr] at h1
theorem creditB_no {g : GmT} {num den : Int} {tab : List Int} {i r : Nat} (hi : i < g.ch.length) (hr : r < (g.ch.getD i []).length) (h : ((g.ch.getD i []).getD r []).any (allowC num den tab i) = false) : creditB g num den tab = false := by
  rw [Bool.eq_false_iff]
  intro e
  have := (creditB_iff.1 e).2 i hi r hr
  rw [h] at this
  cases this
theorem row_at {m s : List (List Int)} {g : GmT} (hg : GmFull m s g) {i r : Nat} (hi : i < g.ch.length) (hr : r < (g.ch.getD i []).length) : RowOK m s g.list.length i r ((g.ch.getD i []).getD r []) ∧ i < g.list.length ∧ r < s.length := by
  have h1 := hg.c.len i hi
  have h2 := hg.clen
  exact ⟨hg.c.row i r hi (by omega), by omega, by omega⟩
theorem el_at {m s : List (List Int)} {n i r : Nat} {row : List (List Int)} (h : RowOK m s n i r row) {k : Nat} (hk : k < row.length) : elOK m n i r (row.getD k []) := h.el _ (by rw [getD_in hk]; exact List.getElem_mem hk)
/-- the state of the first choice that a table allows, or -1 -/
def allowAt (a : Int × Int) (tab : List Int) (i : Nat) (row : List (List Int)) : Int := if idxOf (allowC a.1 a.2 tab i) row < 0 then -1 else (row.getD (idxOf (allowC a.1 a.2 tab i) row).toNat []).getD 5 0
theorem allowAt_neg {m s : List (List Int)} {n f r : Nat} {row : List (List Int)} (h : RowOK m s n f r row) (a : Int × Int) (tab : List Int) (i : Nat) : decide (allowAt a tab i row < 0) = !row.any (allowC a.1 a.2 tab i) := by
  rw [← idxOf_any]
  unfold allowAt
  by_cases h1 : idxOf (allowC a.1 a.2 tab i) row < 0
  · rw [if_pos h1, decide_eq_false (show ¬ 0 ≤ idxOf (allowC a.1 a.2 tab i) row by omega)]
    rfl
  · obtain ⟨k, hk, e, -⟩ := idxOf_lt (Int.not_lt.1 h1)
    rw [if_neg h1, decide_eq_true (show 0 ≤ idxOf (allowC a.1 a.2 tab i) row by omega)]
    have e : idxOf (allowC a.1 a.2 tab i) row = k := e
    rw [e, Int.toNat_natCast]
    obtain ⟨k', u, x, y, h2, -⟩ := el_at h hk
    rw [h2]
    show decide ((u : Int) < 0) = false
    exact decide_eq_false (by omega)
/-- all is right: the game and the ratio -/
def okB (m s : List (List Int)) (x : Int) (a : Int × Int) : Bool := !(gmQ m s x).2 && ratioB a
def crdB (m s : List (List Int)) (x : Int) (a : Int × Int) (tab : List Int) : Bool := okB m s x a && creditB (gmQ m s x).1 a.1 a.2 tab
abbrev b2V (p q : Bool) : AV := .tup [bT p, bT q]
theorem okB_ok {m s : List (List Int)} {x : Int} {a : Int × Int} (h : okB m s x a = true) : (gmQ m s x).2 = false ∧ ratioB a = true := by
  unfold okB at h
  rw [Bool.and_eq_true, Bool.not_eq_true'] at h
  exact h
end Go.Proofs.Ytlhdeofkhajigaa
