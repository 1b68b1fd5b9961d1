/- Sums, differences and products of fractions: the plain laws. Conditions: those that each names. -/
import Derived.Test.YtkcelmnbfbehbaaGreatZMR
import Derived.Test.YtkcelmnbfbehbaaGreatGAM
set_option linter.all false
namespace Go.Proofs.YtkcelmnbfbehbaaGreat
theorem gcd_mul {k n d:Int} (hk:0<k):(Int.gcd (k*n) (k*d):Int)=k*(Int.gcd n d:Int):=by
 rw [Int.gcd_mul_left]
 have:((k.natAbs:Nat):Int)=k:=by omega
 rw [Int.natCast_mul,this]
theorem WC {k n d:Int} (hk:0<k):qN (k*n) (k*d)=qN n d:=by
 unfold qN
 rw [gcd_mul hk,Int.mul_tdiv_mul_of_pos _ _ hk]
theorem WB {k n d:Int} (hk:0<k):qD (k*n) (k*d)=qD n d:=by
 unfold qD
 rw [gcd_mul hk,Int.mul_ediv_mul_of_pos _ _ hk]
theorem UU {n d n' d':Int} (hd:0<d) (hd':0<d') (h:n*d'=n'*d):mD n d=mD n' d'/\vw n d=vw n' d':=by
 have e1:qN n d=qN n' d':=by
  rw [← WC (k:=d') hd',← WC (n:=n') (k:=d) hd,Int.mul_comm d' n,h,Int.mul_comm n' d,Int.mul_comm d' d]
 have e2:qD n d=qD n' d':=by
  rw [← WB (k:=d') hd',← WB (n:=n') (k:=d) hd,Int.mul_comm d' n,h,Int.mul_comm n' d,Int.mul_comm d' d]
 have e3:mD n d=mD n' d':=by unfold mD;rw [e1,e2]
 exact ⟨e3,by unfold vw;rw [e3,e1,e2]⟩
theorem EN {n d:Int} (hd:0<d):qN n d*(Int.gcd n d:Int)=n:=by
 unfold qN
 exact Int.tdiv_mul_cancel (Int.gcd_dvd_left ..)
theorem Ai {n d:Int} (hd:0<d):qD n d*(Int.gcd n d:Int)=d:=by
 unfold qD
 exact Int.ediv_mul_cancel (Int.gcd_dvd_right ..)
theorem Jb {n d:Int} (hd:0<d):0<qD n d:=by
 have h1:=Ai (n:=n) hd
 have h2:=oD n d hd
 rcases Int.lt_trichotomy (qD n d) 0 with h | h | h
 ·have:=Int.mul_neg_of_neg_of_pos h (show (0:Int)<(Int.gcd n d:Int) by omega)
  omega
 ·rw [h,Int.zero_mul] at h1
  omega
 ·exact h
theorem QC {n d:Int} (hd:0<d):Int.gcd (qN n d) (qD n d)=1:=by
 have h1:=oD n d hd
 have h2:(Int.gcd ((Int.gcd n d:Int)*qN n d) ((Int.gcd n d:Int)*qD n d):Int)=(Int.gcd n d:Int)*(Int.gcd (qN n d) (qD n d):Int):=gcd_mul (by omega)
 rw [Int.mul_comm _ (qN n d),Int.mul_comm _ (qD n d),EN hd,Ai hd] at h2
 have h3:(Int.gcd n d:Int)*((Int.gcd (qN n d) (qD n d):Int)-1)=0:=by rw [Int.mul_sub,← h2];omega
 rcases Int.mul_eq_zero.1 h3 with h | h
 ·omega
 ·omega
theorem Wh {n d:Int} (hd:0<d) (hd2:d<=100000) (h1 : -100000000<=n) (h2:n<=100000000):mD n d=true:=by
 have hg:=oD n d hd
 have hq:=Ai (n:=n) hd
 have hn:=EN (n:=n) hd
 have hp:=Jb (n:=n) hd
 refine lX.2 ⟨hp,?_,?_,?_,QC hd⟩
 ·have:qD n d*1<=qD n d*(Int.gcd n d:Int):=Int.mul_le_mul_of_nonneg_left hg (by omega)
  omega
 ·rcases Int.lt_or_le (qN n d) 0 with h | h
  ·have:qN n d*(Int.gcd n d:Int)<=qN n d*1:=Int.mul_le_mul_of_nonpos_left (by omega) hg
   omega
  ·omega
 ·rcases Int.lt_or_le 0 (qN n d) with h | h
  ·have:qN n d*1<=qN n d*(Int.gcd n d:Int):=Int.mul_le_mul_of_nonneg_left hg (by omega)
   omega
  ·omega
structure zx (a:Int×Int) (n d:Int):Prop where
 ok:frB a.1 a.2=true
 eq:a.1*d=n*a.2
 pos:0<d
theorem zx.XM {a:Int×Int} {n d:Int} (h:zx a n d):0<a.2:=by have:=(lX.1 h.ok).1;omega
theorem ZC {a b:Int×Int} {A B D:Int} (ha:zx a A D) (hb:zx b B D):mD (a.1*b.2+b.1*a.2) (a.2*b.2)=mD (A+B) D/\vw (a.1*b.2+b.1*a.2) (a.2*b.2)=vw (A+B) D:=by
 refine UU (Int.mul_pos ha.XM hb.XM) ha.pos ?_
 have h1:=ha.eq
 have h2:=hb.eq
 calc (a.1*b.2+b.1*a.2)*D=(a.1*D)*b.2+(b.1*D)*a.2:=by rw [Int.add_mul,Int.mul_right_comm,Int.mul_right_comm b.1]
  _=A*a.2*b.2+B*b.2*a.2:=by rw [h1,h2]
  _=(A+B)*(a.2*b.2):=by rw [Int.add_mul,Int.mul_assoc,Int.mul_assoc,Int.mul_comm b.2]
theorem zx.bd {a:Int×Int} {n d:Int} (h:zx a n d):1<=a.2/\a.2<=100000 /\ -100000000<=a.1/\a.1<=100000000:=by
 have:=lX.1 h.ok
 exact ⟨this.1,this.2.1,this.2.2.1,this.2.2.2.1⟩
theorem N8 {x y X Y:Int} (hx : -X<=x/\x<=X) (hy:0<=y/\y<=Y) : -(X*Y)<=x*y/\x*y<=X*Y:=by
 have hX:0<=X:=by omega
 have h1:X*y<=X*Y:=Int.mul_le_mul_of_nonneg_left hy.2 hX
 have h2:x*y<=X*y:=Int.mul_le_mul_of_nonneg_right hx.2 hy.1
 have h3:(-X)*y<=x*y:=Int.mul_le_mul_of_nonneg_right hx.1 hy.1
 rw [Int.neg_mul] at h3
 omega
end Go.Proofs.YtkcelmnbfbehbaaGreat
namespace Go.Proofs.YtkcelmnbfbehbaaGreat
open Go Go.RowKit Am
structure OpB (a b:Int×Int):Prop where
 h1 : -10000000000000<=a.1*b.2/\a.1*b.2<=10000000000000
 h2 : -10000000000000<=b.1*a.2/\b.1*a.2<=10000000000000
 h3:1<=a.2*b.2/\a.2*b.2<=10000000000
theorem opB {a b:Int×Int} {A B D E:Int} (ha:zx a A D) (hb:zx b B E):OpB a b:=by
 have h1:=ha.bd
 have h2:=hb.bd
 have h3:=Int.mul_pos ha.XM hb.XM
 have k1:=N8 (x:=a.1) (y:=b.2) (X:=100000000) (Y:=100000) ⟨by omega,by omega⟩ ⟨by omega,by omega⟩
 have k2:=N8 (x:=b.1) (y:=a.2) (X:=100000000) (Y:=100000) ⟨by omega,by omega⟩ ⟨by omega,by omega⟩
 have k3:=N8 (x:=a.2) (y:=b.2) (X:=100000) (Y:=100000) ⟨by omega,by omega⟩ ⟨by omega,by omega⟩
 exact ⟨by omega,by omega,by omega⟩
theorem Yf {a b:Int×Int} {A B D:Int} (ha:zx a A D) (hb:zx b B D):Does Tryz.prog 90 [frA a,frA b] (.imm (.tup [frT (vw (A+B) D),blT (mD (A+B) D)])):=by
 obtain ⟨h1,h2,h3⟩:=opB ha hb
 obtain ⟨e1,e2⟩:=ZC ha hb
 refine aF Tryz.func90 rfl Tryz.ntmps90 aP (fun _ _=>by kernel_rfl) rfl (Nat.le_of_ble_eq_true rfl) ?_
 intro M0 w0
 rw [Tryz.results90]
 refine ah ?_
 ((try refine Or.inl ?_);refine ⟨_,(Ee (a.1*b.2+b.1*a.2) (a.2*b.2) (by omega) (by omega) (by omega) (by omega)),amF,?_⟩;refine amC ?_)
 rw [e1,e2]
 refine ah ?_
 refine Dc ?_
 rfl
theorem zx.neg {a:Int×Int} {n d:Int} (h:zx a n d):zx (-a.1,a.2) (-n) d:=by
 have h1:=lX.1 h.ok
 refine ⟨lX.2 ⟨h1.1,h1.2.1,?_,?_,?_⟩,?_,h.pos⟩
 ·show -100000000 <= -a.1
  omega
 ·show -a.1<=100000000
  omega
 ·show Int.gcd (-a.1) a.2=1
  rw [Int.neg_gcd]
  exact h1.2.2.2.2
 ·show -a.1*d = -n*a.2
  rw [Int.neg_mul,Int.neg_mul,h.eq]
end Go.Proofs.YtkcelmnbfbehbaaGreat
