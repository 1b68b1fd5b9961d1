/- Sums, differences and products of fractions: the plain laws. Conditions: those that each names. -/
import Derived.Test.YtkcelmnbfbehbaaOB
set_option linter.all false
set_option linter.unusedSimpArgs false
set_option linter.unusedVariables false
namespace Go.Proofs.Ytkcelmnbfbehbaa

theorem gcd_mul {k n d:Int} (hk:0<k):(Int.gcd (k*n) (k*d):Int)=k*(Int.gcd n d:Int):=by
  rw [Int.gcd_mul_left]
  have:((k.natAbs:Nat):Int)=k:=by omega
  rw [Int.natCast_mul,this]
theorem qN_val {n d:Int} (hd:0<d):qN n d*(Int.gcd n d:Int)=n:=by
  unfold qN
  exact Int.tdiv_mul_cancel (Int.gcd_dvd_left ..)
theorem qD_val {n d:Int} (hd:0<d):qD n d*(Int.gcd n d:Int)=d:=by
  unfold qD
  exact Int.ediv_mul_cancel (Int.gcd_dvd_right ..)
theorem qD_pos {n d:Int} (hd:0<d):0<qD n d:=by
  have h1:=qD_val (n:=n) hd
  have h2:=gcd_pos n d hd
  rcases Int.lt_trichotomy (qD n d) 0 with h | h | h
  · have:=Int.mul_neg_of_neg_of_pos h (show (0:Int)<(Int.gcd n d:Int) by omega)
    omega
  · rw [h,Int.zero_mul] at h1
    omega
  · exact h
theorem q_gcd {n d:Int} (hd:0<d):Int.gcd (qN n d) (qD n d)=1:=by
  have h1:=gcd_pos n d hd
  have h2:(Int.gcd ((Int.gcd n d:Int)*qN n d) ((Int.gcd n d:Int)*qD n d):Int)=(Int.gcd n d:Int)*(Int.gcd (qN n d) (qD n d):Int):=gcd_mul (by omega)
  rw [Int.mul_comm _ (qN n d),Int.mul_comm _ (qD n d),qN_val hd,qD_val hd] at h2
  have h3:(Int.gcd n d:Int)*((Int.gcd (qN n d) (qD n d):Int)-1)=0:=by rw [Int.mul_sub,← h2];omega
  rcases Int.mul_eq_zero.1 h3 with h | h
  · omega
  · omega
/-- the fraction a is n / d -/
structure IsFr (a:Int×Int) (n d:Int):Prop where
  ok:frB a.1 a.2=true
  eq:a.1*d=n*a.2
  pos:0<d
/-- numbers and denominators of a fraction are small -/
theorem IsFr.bd {a:Int×Int} {n d:Int} (h:IsFr a n d):1≤a.2∧a.2≤100000 ∧ -100000000≤a.1∧a.1≤100000000:=by
  have:=frB_iff.1 h.ok
  exact ⟨this.1,this.2.1,this.2.2.1,this.2.2.2.1⟩
end Go.Proofs.Ytkcelmnbfbehbaa
