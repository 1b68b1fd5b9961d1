/- Sums, differences and products of fractions: the plain laws. Conditions: those that each names. -/
import Derived.Test.YtkcelmnbfbehbaaGreatZOB
import Derived.Test.YtkcelmnbfbehbaaGreatGAM
set_option linter.all false
namespace Go.Proofs.YtkcelmnbfbehbaaGreat
theorem gcd_mul {k n d:Int} (hk:0<k):(Int.gcd (k*n) (k*d):Int)=k*(Int.gcd n d:Int):=by
 rw [Int.gcd_mul_left]
 have:((k.natAbs:Nat):Int)=k:=by omega
 rw [Int.natCast_mul,this]
theorem D7 {n d:Int} (hd:0<d):qN n d*(Int.gcd n d:Int)=n:=by
 unfold qN
 exact Int.tdiv_mul_cancel (Int.gcd_dvd_left ..)
theorem zL {n d:Int} (hd:0<d):qD n d*(Int.gcd n d:Int)=d:=by
 unfold qD
 exact Int.ediv_mul_cancel (Int.gcd_dvd_right ..)
theorem IG {n d:Int} (hd:0<d):0<qD n d:=by
 have h1:=zL (n:=n) hd
 have h2:=jH n d hd
 rcases Int.lt_trichotomy (qD n d) 0 with h | h | h
 ·have:=Int.mul_neg_of_neg_of_pos h (show (0:Int)<(Int.gcd n d:Int) by omega)
  omega
 ·rw [h,Int.zero_mul] at h1
  omega
 ·exact h
theorem Qh {n d:Int} (hd:0<d):Int.gcd (qN n d) (qD n d)=1:=by
 have h1:=jH n d hd
 have h2:(Int.gcd ((Int.gcd n d:Int)*qN n d) ((Int.gcd n d:Int)*qD n d):Int)=(Int.gcd n d:Int)*(Int.gcd (qN n d) (qD n d):Int):=gcd_mul (by omega)
 rw [Int.mul_comm _ (qN n d),Int.mul_comm _ (qD n d),D7 hd,zL hd] at h2
 have h3:(Int.gcd n d:Int)*((Int.gcd (qN n d) (qD n d):Int)-1)=0:=by rw [Int.mul_sub,← h2];omega
 rcases Int.mul_eq_zero.1 h3 with h | h
 ·omega
 ·omega
theorem V5 {n d:Int} (hd:0<d) (hd2:d<=100000) (h1 : -100000000<=n) (h2:n<=100000000):lF n d=true:=by
 have hg:=jH n d hd
 have hq:=zL (n:=n) hd
 have hn:=D7 (n:=n) hd
 have hp:=IG (n:=n) hd
 refine qM.2 ⟨hp,?_,?_,?_,Qh hd⟩
 ·have:qD n d*1<=qD n d*(Int.gcd n d:Int):=Int.mul_le_mul_of_nonneg_left hg (by omega)
  omega
 ·rcases Int.lt_or_le (qN n d) 0 with h | h
  ·have:qN n d*(Int.gcd n d:Int)<=qN n d*1:=Int.mul_le_mul_of_nonpos_left (by omega) hg
   omega
  ·omega
 ·rcases Int.lt_or_le 0 (qN n d) with h | h
  ·have:qN n d*1<=qN n d*(Int.gcd n d:Int):=Int.mul_le_mul_of_nonneg_left hg (by omega)
   omega
  ·omega
end Go.Proofs.YtkcelmnbfbehbaaGreat
namespace Go.Proofs.YtkcelmnbfbehbaaGreat
open Go Go.RowKit Am
theorem ae0 (n lo hi:Int):Does Tryz.prog 118 [.int n,.int lo,.int hi] (.imm (.bool (rng n lo hi))):=by
 refine aC Tryz.func118 rfl Tryz.ntmps118 aX (fun _ _=>by kernel_rfl) rfl (Nat.le_of_ble_eq_true rfl) ?_
 intro M0 w0
 rw [Tryz.results118]
 refine ah ?_
 refine bV ?_
 show AV.bool _=AV.bool _
 congr 1
 unfold rng
 by_cases h1:lo<=n<;>by_cases h2:n<=hi<;>simp [h1,h2]
theorem Kr (n d:Int):Does Tryz.prog 94 [frA (n,d)] (.imm (.bool (frB n d))) :=
 nJ (v := .bool (frB n d)) (fun _ _=>by kernel_rfl) fun M w us hm ha=>by
  obtain ⟨u,us',rfl,k1,k2⟩:=dh ha
  obtain rfl:=iq k2
  obtain ⟨a,b,rfl,h1,h2⟩:=Dv k1
  obtain rfl:a = .int .i64 n:=h1
  obtain rfl:b = .int .i64 d:=h2
  exact wE w n d
theorem LY (a b:Int×Int) (ha:frB a.1 a.2=true) (hb:frB b.1 b.2=true):Does Tryz.prog 83 [frA a,frA b] (.imm (.bool true)):=by
 refine aC Tryz.func83 rfl Tryz.ntmps83 aX (fun _ _=>by kernel_rfl) rfl (Nat.le_of_ble_eq_true rfl) ?_
 intro M0 w0
 rw [Tryz.results83]
 refine ah ?_
 ((try refine Or.inl ?_);refine ⟨_,(Kr a.1 a.2),.inl rfl,?_⟩;refine amC ?_)
 refine ah ?_
 ((try refine Or.inl ?_);refine ⟨_,(fun _=>Kr b.1 b.2),.inl rfl,?_⟩;refine amC ?_)
 refine ah ?_
 refine bV ?_
 rw [ha,hb]
 rfl
end Go.Proofs.YtkcelmnbfbehbaaGreat
