/- Lines of a log: records with their numbers and checksums, by the program's and the reference's functions. Conditions: those that each names. -/
import Derived.Test.YtcllhjdohiklkaaDoorItoa
import Derived.Lib.QuietBelow
set_option linter.all false
set_option linter.unusedSimpArgs false
set_option linter.unusedVariables false
namespace Go.Proofs.YtcllhjdohiklkaaDoor
open Go.Shelf Go.RowKit

theorem cat_list (a b : ByteArray) : (a ++ b).data.toList = a.data.toList ++ b.data.toList := by
  rw [ByteArray.data_append, Array.toList_append]
theorem cat_size (a b : ByteArray) : (a ++ b).size = a.size + b.size := ByteArray.size_append
theorem cat_any (a b : ByteArray) (h : a.size + b.size ≤ 9223372036854775807) (W : World) : (Op.stringOp .add a b).run Tryd.prog W = .ok (.string (a ++ b)) W := run_string_add_sum W a b h
def isHash (x : UInt8) : Bool := x == 35
theorem noHash : ∀ l : List UInt8, l.any isHash = false → decide (0 ≤ Lib.indexByte l 35) = false
  | [], _ => rfl
  | x :: l, h => by
    rw [List.any_cons, Bool.or_eq_false_iff] at h
    have ih := noHash l h.2
    have hge := Lib.indexByte_ge l 35
    have hx : (x == (35 : UInt8)) = false := h.1
    unfold Lib.indexByte
    rw [hx]
    by_cases h3 : Lib.indexByte l 35 = -1
    · simp [h3]
    · exfalso
      have := of_decide_eq_false ih
      omega
theorem chk_nat (l : List UInt8) : ∃ n : Nat, chk l = (n : Int) ∧ n ≤ 999979 := by
  have := chk_bd l
  exact ⟨(chk l).toNat, by omega, by omega⟩
def sealB (s : ByteArray) : ByteArray := (s ++ ⟨#[35]⟩) ++ numB (chk s.data.toList).toNat
theorem decs_any (n : Nat) (hn : n < 100) (w : World) : Calls Tryd.prog 21 #[.int .i64 n] w fun e w' => e = .returned (.string (numB n)) ∧ w' = w := by
  have h := Any.strconv_Itoa_small itoLays.ton171 n hn w
  go_enter Tryd.func21, Tryd.ntmps21
  go_wp2_with (go_at_call 25; refine h.mono ?_; rintro e w' ⟨rfl, rfl⟩)
  go_ret
  exact ⟨rfl, rfl⟩
theorem seal_size (s : ByteArray) : (sealB s).size ≤ s.size + 22 := by
  obtain ⟨n, h1, h2⟩ := chk_nat s.data.toList
  have := numB_size (n := n) (by omega)
  unfold sealB
  rw [cat_size, cat_size, h1, Int.toNat_natCast]
  show _ + 1 + _ ≤ _
  omega
set_option maxHeartbeats 1000000 in
theorem append_any (s : ByteArray) (hs : s.size ≤ 3900) (hh : s.data.toList.any isHash = false) (w : World) (ht : Tab w) : Calls Tryd.prog 20 #[.string s] w fun e w' => e = .returned (.tuple #[.string (sealB s), .bool true]) ∧ Below w.heap.size w w' := by
  obtain ⟨n, h1, h2⟩ := chk_nat s.data.toList
  have hn := numB_size (n := n) (by omega)
  have hz := seal_size s
  have hC : ∀ W, Calls Tryd.prog 23 #[.string s, .string ⟨#[35]⟩] W fun e w' => e = .returned (.bool false) ∧ w' = W := fun W => by
    have := Any.strings_Contains_one conLays s 35 W
    rw [noHash _ hh] at this
    exact this
  have hK : ∀ W, Calls Tryd.prog 24 #[.string s] W fun e w' => e = .returned (.int .i64 n) ∧ w' = W := fun W => by
    have := checksum_any s (by omega) W
    rw [h1] at this
    exact this
  have e0 : sealB s = (s ++ ⟨#[35]⟩) ++ numB n := by unfold sealB; rw [h1, Int.toNat_natCast]
  rw [e0] at hz ⊢
  have a1 := cat_any s ⟨#[35]⟩ (by show _ + 1 ≤ _; omega)
  have a2 := cat_any (s ++ ⟨#[35]⟩) (numB n) (by rw [cat_size]; show _ + 1 + _ ≤ _; omega)
  have hD := dec_any n (by omega) w ht
  clear e0 h1 hh
  go_enter Tryd.func20, Tryd.ntmps20
  go_wp2_with (first
    | (go_at_call 23; refine (hC _).mono ?_; rintro e w' ⟨rfl, rfl⟩)
    | (go_at_call 24; refine (hK _).mono ?_; rintro e w' ⟨rfl, rfl⟩)
    | (go_at_call 21; refine hD.mono ?_; rintro e w' ⟨rfl, hb⟩))
  go_ret2
  exact ⟨rfl, by assumption⟩
def lineB (k : Nat) (c r : ByteArray) : ByteArray := sealB ((((numB k ++ ⟨#[32]⟩) ++ c) ++ ⟨#[64]⟩) ++ r) ++ ⟨#[10]⟩
theorem digit_hash : ∀ n : Nat, (Lib.decDigits n).any isHash = false := fun n => by
  induction n using Nat.strongRecOn with
  | _ n ih =>
    have key : ∀ k, k < 10 → isHash (UInt8.ofNat (48 + k)) = false := fun k hk => by
      match k, hk with
      | 0, _ => rfl
      | 1, _ => rfl
      | 2, _ => rfl
      | 3, _ => rfl
      | 4, _ => rfl
      | 5, _ => rfl
      | 6, _ => rfl
      | 7, _ => rfl
      | 8, _ => rfl
      | 9, _ => rfl
    by_cases h : n < 10
    · rw [dec_small h, List.any_cons, key n h]
      rfl
    · rw [dec_big h, List.any_append, ih (n / 10) (by omega), List.any_cons, key _ (Nat.mod_lt _ (by decide))]
      rfl
theorem plain_hash {s : ByteArray} (h : plainB s = true) : s.data.toList.any isHash = false := by
  rw [List.any_eq_false]
  intro x hx
  have h1 := (ok_yes (List.all_eq_true.1 h x hx)).2
  intro e
  have : x = 35 := by simpa [isHash] using e
  subst this
  revert h1
  decide
theorem msg_hash {k : Nat} {c r : ByteArray} (hc : plainB c = true) (hr : plainB r = true) : (((((numB k ++ ⟨#[32]⟩) ++ c) ++ ⟨#[64]⟩) ++ r)).data.toList.any isHash = false := by
  rw [cat_list, cat_list, cat_list, cat_list, List.any_append, List.any_append, List.any_append, List.any_append, plain_hash hc, plain_hash hr, show (numB k).data.toList = Lib.decDigits k from by simp [numB], digit_hash]
  rfl
theorem rec_ok {c r : ByteArray} (h : recB c r = true) : plainB c = true ∧ plainB r = true ∧ c.size ≤ 160 ∧ r.size ≤ 200 := by
  unfold recB cmdB rng at h
  simp only [Bool.and_eq_true, decide_eq_true_eq] at h
  exact ⟨h.1.2.1, h.2.2, by omega, by omega⟩
set_option maxHeartbeats 2000000 in
theorem encoded_any (k : Nat) (hk : k ≤ 59) (c r : ByteArray) (h : recB c r = true) (w : World) (ht : Tab w) : Calls Tryd.prog 13 #[.int .i64 k, .agg #[.string c, .string r]] w fun e w' => e = .returned (.string (lineB k c r)) ∧ Below w.heap.size w w' := by
  obtain ⟨p1, p2, p3, p4⟩ := rec_ok h
  have hn := numB_size (n := k) (by omega)
  have hm := msg_hash (k := k) p1 p2
  have z1 : (numB k ++ ⟨#[32]⟩).size ≤ 22 := by rw [cat_size]; show _ + 1 ≤ _; omega
  have z2 : ((numB k ++ ⟨#[32]⟩) ++ c).size ≤ 182 := by rw [cat_size]; omega
  have z3 : (((numB k ++ ⟨#[32]⟩) ++ c) ++ ⟨#[64]⟩).size ≤ 183 := by rw [cat_size]; show _ + 1 ≤ _; omega
  have z4 : ((((numB k ++ ⟨#[32]⟩) ++ c) ++ ⟨#[64]⟩) ++ r).size ≤ 383 := by rw [cat_size]; omega
  have a1 := cat_any (numB k) ⟨#[32]⟩ (by show _ + 1 ≤ _; omega)
  have a2 := cat_any (numB k ++ ⟨#[32]⟩) c (by omega)
  have a3 := cat_any ((numB k ++ ⟨#[32]⟩) ++ c) ⟨#[64]⟩ (by show _ + 1 ≤ _; omega)
  have a4 := cat_any (((numB k ++ ⟨#[32]⟩) ++ c) ++ ⟨#[64]⟩) r (by omega)
  have z5 := seal_size ((((numB k ++ ⟨#[32]⟩) ++ c) ++ ⟨#[64]⟩) ++ r)
  have a5 := cat_any (sealB ((((numB k ++ ⟨#[32]⟩) ++ c) ++ ⟨#[64]⟩) ++ r)) ⟨#[10]⟩ (by show _ + 1 ≤ _; omega)
  obtain ⟨W, hW⟩ : ∃ W, (w.alloc (.cells #[.string c, .string r] 27)) = W := ⟨_, rfl⟩
  have hB : Below w.heap.size w W := by rw [← hW]; exact by repeat (first | exact Below.refl _ _ | apply Below.drew | refine Below.setCell ?_ (by first | (simp; done) | (simp; omega)) _ | refine Below.alloc ?_ (by first | (simp; done) | (simp; omega)) _)
  have c1 : W.cell? ⟨w.heap.size, 0, none⟩ = some (.string c) := by rw [← hW]; simp [go_sem]
  have c2 : W.cell? ⟨w.heap.size, 1, none⟩ = some (.string r) := by rw [← hW]; simp [go_sem]
  have htW := ht.below hB
  have cA := fun d os => Calls.regrown_of (w := W) (d := d) (os := os) (append_any _ (by omega) hm _ (htW.below (below_regrown W d os)))
  have cD := fun d os => Calls.regrown_of (w := W) (d := d) (os := os) ((decs_any k (by omega) _).mono fun _ _ h => ⟨h.1, by rw [h.2]; exact Below.refl _ _⟩)
  have d1 := fun d os => cell_regrown c1 d os
  have d2 := fun d os => cell_regrown c2 d os
  clear p1 p2 hm z1 z2 z3 z4 z5 hn h
  go_enter Tryd.func13, Tryd.ntmps13
  go_wp2_with fail
  refine wp_region_quiet_below (by kernel_rfl) (by kernel_rfl) ?_
  repeat (go_big_quiet_step ((first | (go_at_call 20; exact cA _ _) | (go_at_call 21; exact cD _ _))))
  refine wpQuiet_nil ?_
  intro _ hw'
  obtain ⟨⟨dq, osq⟩, hw''⟩ := hw'
  subst hw''
  go_wp2
  go_ret
  exact ⟨rfl, hB.trans ((below_regrown W dq osq).mono hB.size)⟩
end Go.Proofs.YtcllhjdohiklkaaDoor
