/- Sequences of requests and chances: are they right for a problem, by the program's functions. Conditions: none. -/
import Derived.Test.YtlhdeofkhajigaaPS
set_option linter.all false
set_option linter.unusedSimpArgs false
set_option linter.unusedVariables false
namespace Go.Proofs.Ytlhdeofkhajigaa
open Go.RowKit

/-- is a sequence of requests right, for n kinds -/
def seqB (n : Nat) (xs : List Int) : Bool := decide (xs.length ≤ 60) && allIn 0 ((n : Int) - 1) xs
def ChIn (w : World) (v : Value) (ws : List Int) (qs : List (List Int)) : Prop := ∃ u1 u2, v = .agg #[u1, u2] ∧ SlI w u1 ws ∧ SlII w u2 qs
theorem ChIn.below {w w' : World} {v : Value} {ws : List Int} {qs : List (List Int)} (h : ChIn w v ws qs) (hb : Below w.heap.size w w') : ChIn w' v ws qs := by
  obtain ⟨u1, u2, e, h1, h2⟩ := h
  exact ⟨u1, u2, e, SlI.below h1 hb, SlII.below h2 hb⟩
/-- is a drawn sequence right, for n kinds and length l -/
def drawnB (n l : Nat) (xs : List Int) : Bool := decide (xs.length ≤ 6) && (xs.length == l) && seqB n xs
def chB (n : Nat) (ws : List Int) (qs : List (List Int)) : Bool := rng qs.length 1 12 && (ws.length == qs.length) && allIn 1 9 ws && qs.all (drawnB n (headLen qs))

theorem enters_areBelow : Enters Try.prog 115 := fun _ _ => by kernel_rfl
theorem areBelow1_any (w : World) (a : Addr) (x : Int) (n : Nat) (hn : n ≤ 9223372036854775807) (hc : w.cell? a = some (.int .i64 n)) :
    Calls Try.prog 115 (#[.int .i64 x] ++ #[.pointer (some a)]) w fun e w' => e = .returned (.bool (!rng x 0 ((n : Int) - 1))) ∧ Below w.heap.size w w' := by
  simp only [List.push_toArray, List.append_toArray, List.cons_append, List.nil_append]
  go_enter Try.func115, Try.ntmps115
  go_wp2_with (go_at_call 88; refine (within_any _ _ _ _).mono ?_; rintro e w' ⟨rfl, rfl⟩; dsimp only)
  go_ret
  exact ⟨rfl, Below.refl _ _⟩
theorem areBelow_any (w : World) (u : Value) (n : Nat) (xs : List Int) (hn : n ≤ 9223372036854775807) (hx : SlI w u xs) :
    Calls Try.prog 104 #[.int .i64 n, u] w fun e w' => e = .returned (.bool (allIn 0 ((n : Int) - 1) xs)) ∧ Below w.heap.size w w' := by
  have hb : Below w.heap.size w (w.alloc (.cells #[.int .i64 n] 3)) := by repeat (first | exact Below.refl _ _ | apply Below.drew | refine Below.setCell ?_ (by first | (simp; done) | (simp; omega)) _ | refine Below.alloc ?_ (by first | (simp; done) | (simp; omega)) _)
  have H := hide (containsFuncI_any (w.alloc (.cells #[.int .i64 n] 3)) u xs 115 #[.pointer (some ⟨w.heap.size, 0, none⟩)] (fun x => !rng x 0 ((n : Int) - 1)) enters_areBelow (hx.below hb) (fun W hW j hj v hv => by
    subst hv
    exact areBelow1_any W _ _ n hn (cell_of_below hW (by simp [go_sem]))))
  have HR : Hid ((!xs.any fun x => !rng x 0 ((n : Int) - 1)) = allIn 0 ((n : Int) - 1) xs) := by
    show (!xs.any fun x => !rng x 0 ((n : Int) - 1)) = _
    rw [not_any_not]
  clear hx
  go_enter Try.func104, Try.ntmps104
  go_wp2_with ((with_reducible refine H.out.mono ?_); rintro e w2 ⟨rfl, hb2⟩; dsimp only)
  go_ret
  exact ⟨by rw [← HR.out]; rfl, hb.trans (hb2.mono (by simp))⟩

theorem isSequence_any (w : World) (v u : Value) (m s : List (List Int)) (xs : List Int) (hp : ProbIn w v m s) (hx : SlI w u xs) :
    Calls Try.prog 76 #[v, u] w fun e w' => e = .returned (.bool (seqB s.length xs)) ∧ Below w.heap.size w w' := by
  obtain ⟨u1, u2, rfl, h1, h2⟩ := hp
  have hls := SlO.len h2
  have hlx := hx.len
  have hb : Below w.heap.size w (w.alloc (.cells #[u1, u2] 32)) := by repeat (first | exact Below.refl _ _ | apply Below.drew | refine Below.setCell ?_ (by first | (simp; done) | (simp; omega)) _ | refine Below.alloc ?_ (by first | (simp; done) | (simp; omega)) _)
  have H := hide (areBelow_any _ u s.length xs hls (hx.below hb))
  obtain ⟨A1, c1, rfl, _, _, _⟩ := SlO.view h1
  obtain ⟨A2, c2, rfl, _, _, _⟩ := SlO.view h2
  obtain ⟨A, c, rfl, _, _, _⟩ := hx.view
  clear h1 h2 hx
  by_cases hl : xs.length ≤ 60
  · have HP : Hid (seqB s.length xs = allIn 0 ((s.length : Int) - 1) xs) := by show seqB s.length xs = _; simp [seqB, hl]
    have hl' : (xs.length : Int) ≤ 60 := by omega
    have hd : decide ((xs.length : Int) ≤ 60) = true := by simp [hl']
    rw [HP.out]
    clear hl
    go_enter Try.func76, Try.ntmps76
    go_wp2_with ((with_reducible refine H.out.mono ?_); rintro e w2 ⟨rfl, hb2⟩; dsimp only)
    go_ret
    exact ⟨by simp, hb.trans (hb2.mono (by simp))⟩
  · have HP : Hid (seqB s.length xs = false) := by show seqB s.length xs = _; simp [seqB, hl]
    have hd : decide ((xs.length : Int) ≤ 60) = false := by simp; omega
    rw [HP.out]
    clear hl
    go_enter Try.func76, Try.ntmps76
    go_wp2
    go_ret
    exact ⟨by simp, hb⟩

theorem headLen_eq {qs : List (List Int)} (h : 0 < qs.length) : headLen qs = (qs[0]).length := by
  unfold headLen
  cases qs with
  | nil => simp at h
  | cons x xs => rfl

end Go.Proofs.Ytlhdeofkhajigaa
