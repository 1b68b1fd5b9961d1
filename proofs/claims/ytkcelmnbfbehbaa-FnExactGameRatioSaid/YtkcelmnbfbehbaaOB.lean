/- Fractions, first part: the greatest common divisor, sizes, and whether a pair is a fraction, by the program's and the reference's functions. Conditions: numbers of at least 0 for the divisor; sizes above the least int. -/
import Derived.Test.YtkcelmnbfbehbaaProg
import Derived.Test.YtkcelmnbfbehbaaGBA
import Derived.RegionTactic
import Derived.ChangeAlike
set_option linter.all false
set_option linter.unusedSimpArgs false
set_option linter.unusedVariables false
namespace Go.Proofs.Ytkcelmnbfbehbaa
open Go.RowKit

theorem gcd_step (a b:Int) (ha:0≤a) (hb:0<b):Int.gcd b (a % b)=Int.gcd a b:=by
  obtain ⟨n,rfl⟩:=Int.eq_ofNat_of_zero_le ha
  obtain ⟨m,rfl⟩:=Int.eq_ofNat_of_zero_le (Int.le_of_lt hb)
  rw [← Int.natCast_emod,Int.gcd_natCast_natCast,Int.gcd_natCast_natCast,Nat.gcd_comm n m,Nat.gcd_rec m n,Nat.gcd_comm]

set_option maxHeartbeats 400000 in
theorem divisor_any (w:World) (a b:Int) (ha:0≤a) (hb:0≤b) (ha2:a≤9223372036854775807) (hb2:b≤9223372036854775807) :
    Calls Try.prog 75 #[.int .i64 a,.int .i64 b] w fun e w'=>e = .returned (.int .i64 (Int.gcd a b))∧Qt w w':=by
  go_enter Try.func75,Try.ntmps75
  go_wp2
  go_loopw [0,1] (fun u v wr=>∃ x y:Int,0≤x∧0≤y∧x≤9223372036854775807∧y≤9223372036854775807∧u = .int .i64 x∧v = .int .i64 y∧Hid (Int.gcd x y=Int.gcd a b)∧Qt w wr) (fun _ v _=>(intOf v).toNat)
  case atStart=>exact ⟨a,b,ha,hb,ha2,hb2,rfl,rfl,rfl,Qt.refl _⟩
  case round =>
    obtain ⟨x,y,hx,hy,hx2,hy2,rfl,rfl,hg,n,rfl⟩:=hrel
    by_cases h:0<y
    · have hs:=hide (gcd_step x y hx h)
      have h1:(y == 0)=false:=by simp;omega
      have h2:=Int.emod_nonneg x (show y≠0 by omega)
      have h3:=Int.emod_lt_of_pos x h
      go_wp2
      go_quiet (fail)
      go_wp2
      go_roundw
      case rel=>exact ⟨y,x % y,hy,h2,hy2,by omega,rfl,rfl,hs.out.trans hg.out,by first | exact ⟨_,rfl⟩ | exact ⟨_,World.drewN_drewN _ _ _⟩⟩
      case measure=>simp [intOf];omega
    · obtain rfl:y=0:=by omega
      go_wp2
      go_ret
      refine ⟨?_,by first | exact ⟨_,rfl⟩ | exact ⟨_,World.drewN_drewN _ _ _⟩⟩
      have h1:=hg.out
      rw [Int.gcd_zero_right] at h1
      show Ending.returned (.int .i64 x)=_
      rw [← h1,Int.natAbs_of_nonneg hx]
set_option maxHeartbeats 400000 in
theorem l2Gcd_any (w:World) (a b:Int) (ha:0≤a) (hb:0≤b) (ha2:a≤9223372036854775807) (hb2:b≤9223372036854775807) :
    Calls Try.prog 59 #[.int .i64 a,.int .i64 b] w fun e w'=>e = .returned (.int .i64 (Int.gcd a b))∧Qt w w':=by
  go_enter Try.func59,Try.ntmps59
  go_wp2
  go_loopw [0,1] (fun u v wr=>∃ x y:Int,0≤x∧0≤y∧x≤9223372036854775807∧y≤9223372036854775807∧u = .int .i64 x∧v = .int .i64 y∧Hid (Int.gcd x y=Int.gcd a b)∧Qt w wr) (fun _ v _=>(intOf v).toNat)
  case atStart=>exact ⟨a,b,ha,hb,ha2,hb2,rfl,rfl,rfl,Qt.refl _⟩
  case round =>
    obtain ⟨x,y,hx,hy,hx2,hy2,rfl,rfl,hg,n,rfl⟩:=hrel
    by_cases h:0<y
    · have hs:=hide (gcd_step x y hx h)
      have h1:(y == 0)=false:=by simp;omega
      have h2:=Int.emod_nonneg x (show y≠0 by omega)
      have h3:=Int.emod_lt_of_pos x h
      go_wp2
      go_quiet (fail)
      go_wp2
      go_roundw
      case rel=>exact ⟨y,x % y,hy,h2,hy2,by omega,rfl,rfl,hs.out.trans hg.out,by first | exact ⟨_,rfl⟩ | exact ⟨_,World.drewN_drewN _ _ _⟩⟩
      case measure=>simp [intOf];omega
    · obtain rfl:y=0:=by omega
      go_wp2
      go_ret
      refine ⟨?_,by first | exact ⟨_,rfl⟩ | exact ⟨_,World.drewN_drewN _ _ _⟩⟩
      have h1:=hg.out
      rw [Int.gcd_zero_right] at h1
      show Ending.returned (.int .i64 x)=_
      rw [← h1,Int.natAbs_of_nonneg hx]
end Go.Proofs.Ytkcelmnbfbehbaa
/- Fractions, second part: sizes, and whether a pair is a fraction, by the program's and the reference's functions. Conditions: sizes above the least int. -/
set_option linter.all false
set_option linter.unusedSimpArgs false
set_option linter.unusedVariables false
namespace Go.Proofs.Ytkcelmnbfbehbaa
open Go.RowKit

theorem size_any (w:World) (n:Int) (h1 : -9223372036854775807≤n) (h2:n≤9223372036854775807):Calls Try.prog 76 #[.int .i64 n] w fun e w'=>e = .returned (.int .i64 n.natAbs)∧w=w':=by
  by_cases h:0≤n
  · go_enter Try.func76,Try.ntmps76
    go_wp2
    go_ret
    refine ⟨?_,rfl⟩
    show Ending.returned (.int .i64 _)=_
    congr 2
    omega
  · go_enter Try.func76,Try.ntmps76
    go_wp2
    go_ret
    refine ⟨?_,rfl⟩
    show Ending.returned (.int .i64 _)=_
    congr 2
    omega
theorem l2Abs_any (w:World) (n:Int) (h1 : -9223372036854775807≤n) (h2:n≤9223372036854775807):Calls Try.prog 60 #[.int .i64 n] w fun e w'=>e = .returned (.int .i64 n.natAbs)∧w=w':=by
  by_cases h:n > -n
  · have e:(n.natAbs:Int)=n:=by omega
    rw [e]
    go_enter Try.func60,Try.ntmps60
    go_wp2
    go_ret
    exact ⟨rfl,rfl⟩
  · have e:(n.natAbs:Int) = -n:=by omega
    rw [e]
    go_enter Try.func60,Try.ntmps60
    go_wp2
    go_ret
    exact ⟨rfl,rfl⟩

/-- is n/d a fraction -/
def frB (n d:Int):Bool:=decide (1≤d∧d≤100000 ∧ -100000000≤n∧n≤100000000∧Int.gcd n d=1)
theorem frB_den {n d:Int} (h:d<1∨100000<d):frB n d=false:=decide_eq_false (by omega)
theorem frB_num {n d:Int} (h:n < -100000000∨100000000<n):frB n d=false:=decide_eq_false (by omega)
theorem frB_in {n d:Int} (h1:1≤d) (h2:d≤100000) (h3 : -100000000≤n) (h4:n≤100000000):frB n d=((Int.gcd n.natAbs d:Int) == 1):=by
  have e:Int.gcd n.natAbs d=Int.gcd n d:=by simp [Int.gcd]
  rw [e]
  unfold frB
  by_cases h:Int.gcd n d=1
  · simp [h,h1,h2,h3,h4]
  · have h':((Int.gcd n d:Int) == 1)=false:=by simp;omega
    rw [h']
    exact decide_eq_false (by omega)
theorem frB_iff {n d:Int}:frB n d=true↔1≤d∧d≤100000 ∧ -100000000≤n∧n≤100000000∧Int.gcd n d=1:=by simp [frB]

set_option maxHeartbeats 1000000 in
theorem isFrac_any (w:World) (n d:Int):Calls Try.prog 46 #[.agg #[.int .i64 n,.int .i64 d]] w fun e w'=>e = .returned (.bool (frB n d))∧Below w.heap.size w w':=by
  by_cases hd:1≤d∧d≤100000
  · obtain ⟨hd1,hd2⟩:=hd
    by_cases hn : -100000000≤n∧n≤100000000
    · obtain ⟨hn1,hn2⟩:=hn
      rw [frB_in hd1 hd2 hn1 hn2]
      go_enter Try.func46,Try.ntmps46
      go_wp2
      go_quiet ((first | (go_at_call 74;first | (with_reducible exact quiet1 (within_yes _ _ _ _ (by omega) (by omega))) | (with_reducible exact quiet2 (within_yes _ _ _ _ (by omega) (by omega))) | (with_reducible exact quiet3 (within_yes _ _ _ _ (by omega) (by omega))) | (with_reducible exact quiet4 (within_yes _ _ _ _ (by omega) (by omega))) | (with_reducible exact quiet5 (within_yes _ _ _ _ (by omega) (by omega)))) | (go_at_call 76;first | (with_reducible exact quiet1 (size_any _ _ (by omega) (by omega))) | (with_reducible exact quiet2 (size_any _ _ (by omega) (by omega))) | (with_reducible exact quiet3 (size_any _ _ (by omega) (by omega))) | (with_reducible exact quiet4 (size_any _ _ (by omega) (by omega))) | (with_reducible exact quiet5 (size_any _ _ (by omega) (by omega)))) | (go_at_call 75;first | (with_reducible exact quiet1 (divisor_any _ _ _ (by omega) (by omega) (by omega) (by omega))) | (with_reducible exact quiet2 (divisor_any _ _ _ (by omega) (by omega) (by omega) (by omega))) | (with_reducible exact quiet3 (divisor_any _ _ _ (by omega) (by omega) (by omega) (by omega))) | (with_reducible exact quiet4 (divisor_any _ _ _ (by omega) (by omega) (by omega) (by omega))) | (with_reducible exact quiet5 (divisor_any _ _ _ (by omega) (by omega) (by omega) (by omega))))))
      go_wp2
      go_ret
      exact ⟨rfl,below_drewN (by repeat (first | exact Below.refl _ _ | apply Below.drew | refine Below.setCell ?_ (by first | (simp;done) | (simp;omega)) _ | refine Below.alloc ?_ (by first | (simp;done) | (simp;omega)) _)) _⟩
    · rw [frB_num (by omega)]
      go_enter Try.func46,Try.ntmps46
      go_wp2
      go_quiet ((first | (go_at_call 74;first | (with_reducible exact quiet1 (within_yes _ d _ _ (by omega) (by omega))) | (with_reducible exact quiet2 (within_yes _ d _ _ (by omega) (by omega))) | (with_reducible exact quiet3 (within_yes _ d _ _ (by omega) (by omega))) | (with_reducible exact quiet4 (within_yes _ d _ _ (by omega) (by omega))) | (with_reducible exact quiet5 (within_yes _ d _ _ (by omega) (by omega)))) | (go_at_call 74;first | (with_reducible exact quiet1 (within_no _ n _ _ (by omega))) | (with_reducible exact quiet2 (within_no _ n _ _ (by omega))) | (with_reducible exact quiet3 (within_no _ n _ _ (by omega))) | (with_reducible exact quiet4 (within_no _ n _ _ (by omega))) | (with_reducible exact quiet5 (within_no _ n _ _ (by omega))))))
      go_wp2
      go_ret
      exact ⟨rfl,below_drewN (by repeat (first | exact Below.refl _ _ | apply Below.drew | refine Below.setCell ?_ (by first | (simp;done) | (simp;omega)) _ | refine Below.alloc ?_ (by first | (simp;done) | (simp;omega)) _)) _⟩
  · rw [frB_den (by omega)]
    go_enter Try.func46,Try.ntmps46
    go_wp2
    go_quiet (((go_at_call 74;first | (with_reducible exact quiet1 (within_no _ d _ _ (by omega))) | (with_reducible exact quiet2 (within_no _ d _ _ (by omega))) | (with_reducible exact quiet3 (within_no _ d _ _ (by omega))) | (with_reducible exact quiet4 (within_no _ d _ _ (by omega))) | (with_reducible exact quiet5 (within_no _ d _ _ (by omega))))))
    go_wp2
    go_ret
    exact ⟨rfl,below_drewN (by repeat (first | exact Below.refl _ _ | apply Below.drew | refine Below.setCell ?_ (by first | (simp;done) | (simp;omega)) _ | refine Below.alloc ?_ (by first | (simp;done) | (simp;omega)) _)) _⟩
set_option maxHeartbeats 1000000 in
theorem l2Good_any (w:World) (n d:Int):Calls Try.prog 35 #[.agg #[.int .i64 n,.int .i64 d]] w fun e w'=>e = .returned (.bool (frB n d))∧Below w.heap.size w w':=by
  by_cases hd:1≤d∧d≤100000
  · obtain ⟨hd1,hd2⟩:=hd
    by_cases hn : -100000000≤n∧n≤100000000
    · obtain ⟨hn1,hn2⟩:=hn
      rw [frB_in hd1 hd2 hn1 hn2]
      go_enter Try.func35,Try.ntmps35
      go_wp2
      go_quiet ((first | (go_at_call 56;first | (with_reducible exact quiet1 (l1In_yes _ _ _ _ (by omega) (by omega))) | (with_reducible exact quiet2 (l1In_yes _ _ _ _ (by omega) (by omega))) | (with_reducible exact quiet3 (l1In_yes _ _ _ _ (by omega) (by omega))) | (with_reducible exact quiet4 (l1In_yes _ _ _ _ (by omega) (by omega))) | (with_reducible exact quiet5 (l1In_yes _ _ _ _ (by omega) (by omega)))) | (go_at_call 60;first | (with_reducible exact quiet1 (l2Abs_any _ _ (by omega) (by omega))) | (with_reducible exact quiet2 (l2Abs_any _ _ (by omega) (by omega))) | (with_reducible exact quiet3 (l2Abs_any _ _ (by omega) (by omega))) | (with_reducible exact quiet4 (l2Abs_any _ _ (by omega) (by omega))) | (with_reducible exact quiet5 (l2Abs_any _ _ (by omega) (by omega)))) | (go_at_call 59;first | (with_reducible exact quiet1 (l2Gcd_any _ _ _ (by omega) (by omega) (by omega) (by omega))) | (with_reducible exact quiet2 (l2Gcd_any _ _ _ (by omega) (by omega) (by omega) (by omega))) | (with_reducible exact quiet3 (l2Gcd_any _ _ _ (by omega) (by omega) (by omega) (by omega))) | (with_reducible exact quiet4 (l2Gcd_any _ _ _ (by omega) (by omega) (by omega) (by omega))) | (with_reducible exact quiet5 (l2Gcd_any _ _ _ (by omega) (by omega) (by omega) (by omega))))))
      go_wp2
      go_ret
      exact ⟨rfl,below_drewN (by repeat (first | exact Below.refl _ _ | apply Below.drew | refine Below.setCell ?_ (by first | (simp;done) | (simp;omega)) _ | refine Below.alloc ?_ (by first | (simp;done) | (simp;omega)) _)) _⟩
    · rw [frB_num (by omega)]
      go_enter Try.func35,Try.ntmps35
      go_wp2
      go_quiet ((first | (go_at_call 56;first | (with_reducible exact quiet1 (l1In_yes _ d _ _ (by omega) (by omega))) | (with_reducible exact quiet2 (l1In_yes _ d _ _ (by omega) (by omega))) | (with_reducible exact quiet3 (l1In_yes _ d _ _ (by omega) (by omega))) | (with_reducible exact quiet4 (l1In_yes _ d _ _ (by omega) (by omega))) | (with_reducible exact quiet5 (l1In_yes _ d _ _ (by omega) (by omega)))) | (go_at_call 56;first | (with_reducible exact quiet1 (l1In_no _ n _ _ (by omega))) | (with_reducible exact quiet2 (l1In_no _ n _ _ (by omega))) | (with_reducible exact quiet3 (l1In_no _ n _ _ (by omega))) | (with_reducible exact quiet4 (l1In_no _ n _ _ (by omega))) | (with_reducible exact quiet5 (l1In_no _ n _ _ (by omega))))))
      go_wp2
      go_ret
      exact ⟨rfl,below_drewN (by repeat (first | exact Below.refl _ _ | apply Below.drew | refine Below.setCell ?_ (by first | (simp;done) | (simp;omega)) _ | refine Below.alloc ?_ (by first | (simp;done) | (simp;omega)) _)) _⟩
  · rw [frB_den (by omega)]
    go_enter Try.func35,Try.ntmps35
    go_wp2
    go_quiet (((go_at_call 56;first | (with_reducible exact quiet1 (l1In_no _ d _ _ (by omega))) | (with_reducible exact quiet2 (l1In_no _ d _ _ (by omega))) | (with_reducible exact quiet3 (l1In_no _ d _ _ (by omega))) | (with_reducible exact quiet4 (l1In_no _ d _ _ (by omega))) | (with_reducible exact quiet5 (l1In_no _ d _ _ (by omega))))))
    go_wp2
    go_ret
    exact ⟨rfl,below_drewN (by repeat (first | exact Below.refl _ _ | apply Below.drew | refine Below.setCell ?_ (by first | (simp;done) | (simp;omega)) _ | refine Below.alloc ?_ (by first | (simp;done) | (simp;omega)) _)) _⟩
end Go.Proofs.Ytkcelmnbfbehbaa
/- Fractions, third part: the fraction of two numbers, by the program's and the reference's functions. Conditions: a lower number of at least 1, an upper one above the least int. -/
set_option linter.all false
set_option linter.unusedSimpArgs false
set_option linter.unusedVariables false
namespace Go.Proofs.Ytkcelmnbfbehbaa
open Go.RowKit

/-- numerator and denominator in lowest terms; whether they are a fraction; the fraction, or zeros -/
def qN (n d:Int):Int:=n.tdiv (Int.gcd n d)
def qD (n d:Int):Int:=d / (Int.gcd n d)
def mkOk (n d:Int):Bool:=frB (qN n d) (qD n d)
def mkFr (n d:Int):Int×Int:=if mkOk n d then (qN n d,qD n d) else (0,0)
def frV (a:Int×Int):Value := .agg #[.int .i64 a.1,.int .i64 a.2]
theorem gcd_pos (n d:Int) (h:1≤d):1≤(Int.gcd n d:Int):=by
  have:0<Int.gcd n d:=Int.gcd_pos_of_ne_zero_right n (by omega)
  omega
theorem gcd_le (n d:Int) (h:1≤d):(Int.gcd n d:Int)≤d:=Int.le_of_dvd (by omega) (Int.gcd_dvd_right ..)
theorem gcd_abs (n d:Int):Int.gcd n.natAbs d=Int.gcd n d:=by simp [Int.gcd]
theorem tdiv_bound (n g:Int) (hg:1≤g) (h1 : -9223372036854775807≤n) (h2:n≤9223372036854775807) : -9223372036854775807≤n.tdiv g∧n.tdiv g≤9223372036854775807:=by
  have h:=Int.natAbs_tdiv_le_natAbs n g
  omega

def mkV (n d:Int) (b:Bool):Value:=if b then .agg #[.int .i64 (qN n d),.int .i64 (qD n d)] else .agg #[.int .i64 0,.int .i64 0]
set_option maxHeartbeats 1000000 in
theorem makeFrac_true (w:World) (n d:Int) (hd:1≤d) (hd2:d≤9223372036854775807) (h1 : -9223372036854775807≤n) (h2:n≤9223372036854775807) (hok:mkOk n d=true) :
    Calls Try.prog 53 #[.int .i64 n,.int .i64 d] w fun e w'=>e = .returned (.tuple #[mkV n d true,.bool true])∧Below w.heap.size w w':=by
  have hg1:=gcd_pos n d hd
  have hg2:=gcd_le n d hd
  obtain ⟨g,hg⟩:∃ g:Int,(Int.gcd n d:Int)=g:=⟨_,rfl⟩
  have hmv:mkV n d true=if true then .agg #[.int .i64 (n.tdiv g),.int .i64 (d / g)] else .agg #[.int .i64 0,.int .i64 0]:=by rw [← hg];rfl
  rw [hmv]
  rw [hg] at hg1 hg2
  have hb:=tdiv_bound n g hg1 h1 h2
  have hq1:=hb.1
  have hq2:=hb.2
  have hz:(g == 0)=false:=by simp;omega
  have HE:Hid ((Int.gcd n.natAbs d:Int)=g):=by rw [gcd_abs];exact hg
  have hfb:Hid (frB (n.tdiv g) (d / g)=true):=by rw [← hg];exact hok
  clear hg hb hok hmv
  go_enter Try.func53,Try.ntmps53
  go_wp2_with (first
    | (go_at_call 76;refine (size_any _ _ (by omega) (by omega)).mono ?_;rintro e w' ⟨rfl,rfl⟩;dsimp only)
    | (go_at_call 75;refine (divisor_any _ _ _ (by omega) (by omega) (by omega) (by omega)).mono ?_;rintro e w' ⟨rfl,⟨m,rfl⟩⟩;rw [HE.out];dsimp only))
  go_region
  go_wp2_with (go_at_call 46;refine (isFrac_any _ _ _).mono ?_;rintro e w2 ⟨rfl,hb⟩;rw [hfb.out];obtain ⟨hc,hf⟩:=bcell hb;have hz:=hb.size;(try simp at hz);dsimp only)
  have B0:Below w.heap.size w w2:=Below.trans (by repeat (first | exact Below.refl _ _ | apply Below.drew | apply below_drewN | refine Below.alloc ?_ (by first | (simp;done) | (simp;omega)) _)) (hb.mono (by first | (simp;done) | (simp;omega)))
  have k0:w2.cell? ⟨w.heap.size,0,none⟩=some (.int .i64 0):=by rw [hc _ _ (by first | (simp;done) | (simp;omega))];simp [go_sem]
  have k1:w2.cell? ⟨w.heap.size,1,none⟩=some (.int .i64 0):=by rw [hc _ _ (by first | (simp;done) | (simp;omega))];simp [go_sem]
  have r0:=stored2 (x:=(if true then .int .i64 (n.tdiv g) else .int .i64 0)) (y:=(if true then .int .i64 (d / g) else .int .i64 0)) k0 k1
  simp only [Bool.false_eq_true,if_true,if_false] at r0
  exact bodyPost_ret (v := .tuple #[if true then .agg #[.int .i64 (n.tdiv g),.int .i64 (d / g)] else .agg #[.int .i64 0,.int .i64 0],.bool true]) (by simp [results,Try.results53,go_sem,r0.1,r0.2]) rfl ⟨rfl,by repeat (first | exact B0 | refine Below.setCell ?_ (by simp) _)⟩
set_option maxHeartbeats 1000000 in
theorem makeFrac_false (w:World) (n d:Int) (hd:1≤d) (hd2:d≤9223372036854775807) (h1 : -9223372036854775807≤n) (h2:n≤9223372036854775807) (hok:mkOk n d=false) :
    Calls Try.prog 53 #[.int .i64 n,.int .i64 d] w fun e w'=>e = .returned (.tuple #[mkV n d false,.bool false])∧Below w.heap.size w w':=by
  have hg1:=gcd_pos n d hd
  have hg2:=gcd_le n d hd
  obtain ⟨g,hg⟩:∃ g:Int,(Int.gcd n d:Int)=g:=⟨_,rfl⟩
  have hmv:mkV n d false=if false then .agg #[.int .i64 (n.tdiv g),.int .i64 (d / g)] else .agg #[.int .i64 0,.int .i64 0]:=by rw [← hg];rfl
  rw [hmv]
  rw [hg] at hg1 hg2
  have hb:=tdiv_bound n g hg1 h1 h2
  have hq1:=hb.1
  have hq2:=hb.2
  have hz:(g == 0)=false:=by simp;omega
  have HE:Hid ((Int.gcd n.natAbs d:Int)=g):=by rw [gcd_abs];exact hg
  have hfb:Hid (frB (n.tdiv g) (d / g)=false):=by rw [← hg];exact hok
  clear hg hb hok hmv
  go_enter Try.func53,Try.ntmps53
  go_wp2_with (first
    | (go_at_call 76;refine (size_any _ _ (by omega) (by omega)).mono ?_;rintro e w' ⟨rfl,rfl⟩;dsimp only)
    | (go_at_call 75;refine (divisor_any _ _ _ (by omega) (by omega) (by omega) (by omega)).mono ?_;rintro e w' ⟨rfl,⟨m,rfl⟩⟩;rw [HE.out];dsimp only))
  go_region
  go_wp2_with (go_at_call 46;refine (isFrac_any _ _ _).mono ?_;rintro e w2 ⟨rfl,hb⟩;rw [hfb.out];obtain ⟨hc,hf⟩:=bcell hb;have hz:=hb.size;(try simp at hz);dsimp only)
  have B0:Below w.heap.size w w2:=Below.trans (by repeat (first | exact Below.refl _ _ | apply Below.drew | apply below_drewN | refine Below.alloc ?_ (by first | (simp;done) | (simp;omega)) _)) (hb.mono (by first | (simp;done) | (simp;omega)))
  have k0:w2.cell? ⟨w.heap.size,0,none⟩=some (.int .i64 0):=by rw [hc _ _ (by first | (simp;done) | (simp;omega))];simp [go_sem]
  have k1:w2.cell? ⟨w.heap.size,1,none⟩=some (.int .i64 0):=by rw [hc _ _ (by first | (simp;done) | (simp;omega))];simp [go_sem]
  have r0:=stored2 (x:=(if false then .int .i64 (n.tdiv g) else .int .i64 0)) (y:=(if false then .int .i64 (d / g) else .int .i64 0)) k0 k1
  simp only [Bool.false_eq_true,if_true,if_false] at r0
  exact bodyPost_ret (v := .tuple #[if false then .agg #[.int .i64 (n.tdiv g),.int .i64 (d / g)] else .agg #[.int .i64 0,.int .i64 0],.bool false]) (by simp [results,Try.results53,go_sem,r0.1,r0.2]) rfl ⟨rfl,by repeat (first | exact B0 | refine Below.setCell ?_ (by simp) _)⟩
set_option maxHeartbeats 1000000 in
theorem l2Make_true (w:World) (n d:Int) (hd:1≤d) (hd2:d≤9223372036854775807) (h1 : -9223372036854775807≤n) (h2:n≤9223372036854775807) (hok:mkOk n d=true) :
    Calls Try.prog 101 #[.int .i64 n,.int .i64 d] w fun e w'=>e = .returned (.tuple #[mkV n d true,.bool true])∧Below w.heap.size w w':=by
  have hg1:=gcd_pos n d hd
  have hg2:=gcd_le n d hd
  obtain ⟨g,hg⟩:∃ g:Int,(Int.gcd n d:Int)=g:=⟨_,rfl⟩
  have hmv:mkV n d true=if true then .agg #[.int .i64 (n.tdiv g),.int .i64 (d / g)] else .agg #[.int .i64 0,.int .i64 0]:=by rw [← hg];rfl
  rw [hmv]
  rw [hg] at hg1 hg2
  have hb:=tdiv_bound n g hg1 h1 h2
  have hq1:=hb.1
  have hq2:=hb.2
  have hz:(g == 0)=false:=by simp;omega
  have HE:Hid ((Int.gcd n.natAbs d:Int)=g):=by rw [gcd_abs];exact hg
  have hfb:Hid (frB (n.tdiv g) (d / g)=true):=by rw [← hg];exact hok
  clear hg hb hok hmv
  go_enter Try.func101,Try.ntmps101
  go_wp2_with (first
    | (go_at_call 60;refine (l2Abs_any _ _ (by omega) (by omega)).mono ?_;rintro e w' ⟨rfl,rfl⟩;dsimp only)
    | (go_at_call 59;refine (l2Gcd_any _ _ _ (by omega) (by omega) (by omega) (by omega)).mono ?_;rintro e w' ⟨rfl,⟨m,rfl⟩⟩;rw [HE.out];dsimp only))
  go_region
  go_wp2_with (go_at_call 35;refine (l2Good_any _ _ _).mono ?_;rintro e w2 ⟨rfl,hb⟩;rw [hfb.out];obtain ⟨hc,hf⟩:=bcell hb;have hz:=hb.size;(try simp at hz);dsimp only)
  have B0:Below w.heap.size w w2:=Below.trans (by repeat (first | exact Below.refl _ _ | apply Below.drew | apply below_drewN | refine Below.alloc ?_ (by first | (simp;done) | (simp;omega)) _)) (hb.mono (by first | (simp;done) | (simp;omega)))
  have k0:w2.cell? ⟨w.heap.size,0,none⟩=some (.int .i64 0):=by rw [hc _ _ (by first | (simp;done) | (simp;omega))];simp [go_sem]
  have k1:w2.cell? ⟨w.heap.size,1,none⟩=some (.int .i64 0):=by rw [hc _ _ (by first | (simp;done) | (simp;omega))];simp [go_sem]
  have r0:=stored2 (x:=(if true then .int .i64 (n.tdiv g) else .int .i64 0)) (y:=(if true then .int .i64 (d / g) else .int .i64 0)) k0 k1
  simp only [Bool.false_eq_true,if_true,if_false] at r0
  exact bodyPost_ret (v := .tuple #[if true then .agg #[.int .i64 (n.tdiv g),.int .i64 (d / g)] else .agg #[.int .i64 0,.int .i64 0],.bool true]) (by simp [results,Try.results101,go_sem,r0.1,r0.2]) rfl ⟨rfl,by repeat (first | exact B0 | refine Below.setCell ?_ (by simp) _)⟩
set_option maxHeartbeats 1000000 in
theorem l2Make_false (w:World) (n d:Int) (hd:1≤d) (hd2:d≤9223372036854775807) (h1 : -9223372036854775807≤n) (h2:n≤9223372036854775807) (hok:mkOk n d=false) :
    Calls Try.prog 101 #[.int .i64 n,.int .i64 d] w fun e w'=>e = .returned (.tuple #[mkV n d false,.bool false])∧Below w.heap.size w w':=by
  have hg1:=gcd_pos n d hd
  have hg2:=gcd_le n d hd
  obtain ⟨g,hg⟩:∃ g:Int,(Int.gcd n d:Int)=g:=⟨_,rfl⟩
  have hmv:mkV n d false=if false then .agg #[.int .i64 (n.tdiv g),.int .i64 (d / g)] else .agg #[.int .i64 0,.int .i64 0]:=by rw [← hg];rfl
  rw [hmv]
  rw [hg] at hg1 hg2
  have hb:=tdiv_bound n g hg1 h1 h2
  have hq1:=hb.1
  have hq2:=hb.2
  have hz:(g == 0)=false:=by simp;omega
  have HE:Hid ((Int.gcd n.natAbs d:Int)=g):=by rw [gcd_abs];exact hg
  have hfb:Hid (frB (n.tdiv g) (d / g)=false):=by rw [← hg];exact hok
  clear hg hb hok hmv
  go_enter Try.func101,Try.ntmps101
  go_wp2_with (first
    | (go_at_call 60;refine (l2Abs_any _ _ (by omega) (by omega)).mono ?_;rintro e w' ⟨rfl,rfl⟩;dsimp only)
    | (go_at_call 59;refine (l2Gcd_any _ _ _ (by omega) (by omega) (by omega) (by omega)).mono ?_;rintro e w' ⟨rfl,⟨m,rfl⟩⟩;rw [HE.out];dsimp only))
  go_region
  go_wp2_with (go_at_call 35;refine (l2Good_any _ _ _).mono ?_;rintro e w2 ⟨rfl,hb⟩;rw [hfb.out];obtain ⟨hc,hf⟩:=bcell hb;have hz:=hb.size;(try simp at hz);dsimp only)
  have B0:Below w.heap.size w w2:=Below.trans (by repeat (first | exact Below.refl _ _ | apply Below.drew | apply below_drewN | refine Below.alloc ?_ (by first | (simp;done) | (simp;omega)) _)) (hb.mono (by first | (simp;done) | (simp;omega)))
  have k0:w2.cell? ⟨w.heap.size,0,none⟩=some (.int .i64 0):=by rw [hc _ _ (by first | (simp;done) | (simp;omega))];simp [go_sem]
  have k1:w2.cell? ⟨w.heap.size,1,none⟩=some (.int .i64 0):=by rw [hc _ _ (by first | (simp;done) | (simp;omega))];simp [go_sem]
  have r0:=stored2 (x:=(if false then .int .i64 (n.tdiv g) else .int .i64 0)) (y:=(if false then .int .i64 (d / g) else .int .i64 0)) k0 k1
  simp only [Bool.false_eq_true,if_true,if_false] at r0
  exact bodyPost_ret (v := .tuple #[if false then .agg #[.int .i64 (n.tdiv g),.int .i64 (d / g)] else .agg #[.int .i64 0,.int .i64 0],.bool false]) (by simp [results,Try.results101,go_sem,r0.1,r0.2]) rfl ⟨rfl,by repeat (first | exact B0 | refine Below.setCell ?_ (by simp) _)⟩
theorem mkV_eq (n d:Int):mkV n d (mkOk n d)=frV (mkFr n d):=by
  unfold mkV mkFr frV
  cases mkOk n d<;>rfl
theorem makeFrac_any (w:World) (n d:Int) (hd:1≤d) (hd2:d≤9223372036854775807) (h1 : -9223372036854775807≤n) (h2:n≤9223372036854775807) :
    Calls Try.prog 53 #[.int .i64 n,.int .i64 d] w fun e w'=>e = .returned (.tuple #[frV (mkFr n d),.bool (mkOk n d)])∧Below w.heap.size w w':=by
  rw [← mkV_eq]
  cases h:mkOk n d
  · exact makeFrac_false w n d hd hd2 h1 h2 h
  · exact makeFrac_true w n d hd hd2 h1 h2 h
theorem l2Make_any (w:World) (n d:Int) (hd:1≤d) (hd2:d≤9223372036854775807) (h1 : -9223372036854775807≤n) (h2:n≤9223372036854775807) :
    Calls Try.prog 101 #[.int .i64 n,.int .i64 d] w fun e w'=>e = .returned (.tuple #[frV (mkFr n d),.bool (mkOk n d)])∧Below w.heap.size w w':=by
  rw [← mkV_eq]
  cases h:mkOk n d
  · exact l2Make_false w n d hd hd2 h1 h2 h
  · exact l2Make_true w n d hd hd2 h1 h2 h

/-! ### a result that is a fraction and a bool: its block, kept from call to call, and stored at the end -/
/-- block b holds a fraction that is still zero -/
def FrBox (w:World) (b:Nat):Prop:=w.heap[b]? = some (.cells #[.int .i64 0,.int .i64 0] 33 (0,0))
theorem FrBox.new (w:World):FrBox (w.alloc (.cells #[.int .i64 0,.int .i64 0] 33)) w.heap.size:=heap_alloc_new w _
theorem FrBox.lt {w:World} {b:Nat} (h:FrBox w b):b<w.heap.size:=(Array.getElem?_eq_some_iff.1 h).1
theorem FrBox.next {w w':World} {b:Nat} (h:FrBox w b) (hb:Below w.heap.size w w'):FrBox w' b:=(hb.block b h.lt).trans h
theorem FrBox.drewN {w:World} {b:Nat} (h:FrBox w b) (n:Nat):FrBox (w.drewN n) b:=h
theorem FrBox.alloc {w:World} {b:Nat} (h:FrBox w b) (o:Obj):FrBox (w.alloc o) b:=(Below.heap_alloc w o b h.lt).trans h
theorem FrBox.cells {w:World} {b:Nat} (h:FrBox w b):(w.cell? ⟨b,0,none⟩=some (.int .i64 0)∧w.cell? ⟨b,1,none⟩=some (.int .i64 0))∧w.frozen? ⟨b,0,none⟩=false∧w.frozen? ⟨b,1,none⟩=false :=
  ⟨⟨cell_of_row w b 0 _ _ _ h,cell_of_row w b 1 _ _ _ h⟩,frozen_of_row w b 0 _ _ h,frozen_of_row w b 1 _ _ h⟩
end Go.Proofs.Ytkcelmnbfbehbaa
