/- Sums, differences and products of fractions: the plain laws. Conditions: those that each names. -/
import Derived.Test.YtjblpcgkffhgfaaGreatOB
import Derived.Test.YtjblpcgkffhgfaaGreatME
import Derived.Test.YtjblpcgkffhgfaaGreatOA
import Derived.Test.YtjblpcgkffhgfaaGreatGFR
import Derived.Test.YtjblpcgkffhgfaaGreatGAM
set_option linter.all false
set_option linter.unusedSimpArgs false
set_option linter.unusedVariables false
namespace Go.Proofs.YtjblpcgkffhgfaaGreat

theorem gcd_mul {k n d:Int} (hk:0<k):(Int.gcd (k*n) (k*d):Int)=k*(Int.gcd n d:Int):=by
  rw [Int.gcd_mul_left]
  have:((k.natAbs:Nat):Int)=k:=by omega
  rw [Int.natCast_mul,this]
theorem qN_mul {k n d:Int} (hk:0<k):qN (k*n) (k*d)=qN n d:=by
  unfold qN
  rw [gcd_mul hk,Int.mul_tdiv_mul_of_pos _ _ hk]
theorem qD_mul {k n d:Int} (hk:0<k):qD (k*n) (k*d)=qD n d:=by
  unfold qD
  rw [gcd_mul hk,Int.mul_ediv_mul_of_pos _ _ hk]
theorem fr_cross {n d n' d':Int} (hd:0<d) (hd':0<d') (h:n*d'=n'*d):mkOk n d=mkOk n' d'∧mkFr n d=mkFr n' d':=by
  have e1:qN n d=qN n' d':=by
    rw [← qN_mul (k:=d') hd',← qN_mul (n:=n') (k:=d) hd,Int.mul_comm d' n,h,Int.mul_comm n' d,Int.mul_comm d' d]
  have e2:qD n d=qD n' d':=by
    rw [← qD_mul (k:=d') hd',← qD_mul (n:=n') (k:=d) hd,Int.mul_comm d' n,h,Int.mul_comm n' d,Int.mul_comm d' d]
  have e3:mkOk n d=mkOk n' d':=by unfold mkOk;rw [e1,e2]
  exact ⟨e3,by unfold mkFr;rw [e3,e1,e2]⟩
theorem qN_val {n d:Int} (hd:0<d):qN n d*(Int.gcd n d:Int)=n:=by
  unfold qN
  exact Int.tdiv_mul_cancel (Int.gcd_dvd_left ..)
theorem qD_val {n d:Int} (hd:0<d):qD n d*(Int.gcd n d:Int)=d:=by
  unfold qD
  exact Int.ediv_mul_cancel (Int.gcd_dvd_right ..)
theorem qD_pos {n d:Int} (hd:0<d):0<qD n d:=by
  have h1:=qD_val (n:=n) hd
  have h2:=gcd_pos n d hd
  rcases Int.lt_trichotomy (qD n d) 0 with h | h | h
  · have:=Int.mul_neg_of_neg_of_pos h (show (0:Int)<(Int.gcd n d:Int) by omega)
    omega
  · rw [h,Int.zero_mul] at h1
    omega
  · exact h
theorem q_gcd {n d:Int} (hd:0<d):Int.gcd (qN n d) (qD n d)=1:=by
  have h1:=gcd_pos n d hd
  have h2:(Int.gcd ((Int.gcd n d:Int)*qN n d) ((Int.gcd n d:Int)*qD n d):Int)=(Int.gcd n d:Int)*(Int.gcd (qN n d) (qD n d):Int):=gcd_mul (by omega)
  rw [Int.mul_comm _ (qN n d),Int.mul_comm _ (qD n d),qN_val hd,qD_val hd] at h2
  have h3:(Int.gcd n d:Int)*((Int.gcd (qN n d) (qD n d):Int)-1)=0:=by rw [Int.mul_sub,← h2];omega
  rcases Int.mul_eq_zero.1 h3 with h | h
  · omega
  · omega
/-- small fractions are fractions -/
theorem ok_small {n d:Int} (hd:0<d) (hd2:d≤100000) (h1 : -100000000≤n) (h2:n≤100000000):mkOk n d=true:=by
  have hg:=gcd_pos n d hd
  have hq:=qD_val (n:=n) hd
  have hn:=qN_val (n:=n) hd
  have hp:=qD_pos (n:=n) hd
  refine frB_iff.2 ⟨hp,?_,?_,?_,q_gcd hd⟩
  · have:qD n d*1≤qD n d*(Int.gcd n d:Int):=Int.mul_le_mul_of_nonneg_left hg (by omega)
    omega
  · rcases Int.lt_or_le (qN n d) 0 with h | h
    · have:qN n d*(Int.gcd n d:Int)≤qN n d*1:=Int.mul_le_mul_of_nonpos_left (by omega) hg
      omega
    · omega
  · rcases Int.lt_or_le 0 (qN n d) with h | h
    · have:qN n d*1≤qN n d*(Int.gcd n d:Int):=Int.mul_le_mul_of_nonneg_left hg (by omega)
      omega
    · omega
/-- the fraction a is n / d -/
structure IsFr (a:Int×Int) (n d:Int):Prop where
  ok:frB a.1 a.2=true
  eq:a.1*d=n*a.2
  pos:0<d
theorem IsFr.dpos {a:Int×Int} {n d:Int} (h:IsFr a n d):0<a.2:=by have:=(frB_iff.1 h.ok).1;omega
theorem isFr_mk {n d:Int} (hd:0<d) (h:mkOk n d=true):IsFr (mkFr n d) n d:=by
  have e:mkFr n d=(qN n d,qD n d):=by unfold mkFr;rw [if_pos h]
  rw [e]
  refine ⟨h,?_,hd⟩
  show qN n d*d=n*qD n d
  have h1:=qN_val (n:=n) hd
  have h2:=qD_val (n:=n) hd
  calc qN n d*d=qN n d*(qD n d*(Int.gcd n d:Int)):=by rw [h2]
    _=(qN n d*(Int.gcd n d:Int))*qD n d:=by rw [Int.mul_assoc,Int.mul_comm (qD n d)]
    _=n*qD n d:=by rw [h1]
theorem isFr_small {n d:Int} (hd:0<d) (hd2:d≤100000) (h1 : -100000000≤n) (h2:n≤100000000):IsFr (mkFr n d) n d:=isFr_mk hd (ok_small hd hd2 h1 h2)
theorem fr_add {a b:Int×Int} {A B D:Int} (ha:IsFr a A D) (hb:IsFr b B D):mkOk (a.1*b.2+b.1*a.2) (a.2*b.2)=mkOk (A+B) D∧mkFr (a.1*b.2+b.1*a.2) (a.2*b.2)=mkFr (A+B) D:=by
  refine fr_cross (Int.mul_pos ha.dpos hb.dpos) ha.pos ?_
  have h1:=ha.eq
  have h2:=hb.eq
  calc (a.1*b.2+b.1*a.2)*D=(a.1*D)*b.2+(b.1*D)*a.2:=by rw [Int.add_mul,Int.mul_right_comm,Int.mul_right_comm b.1]
    _=A*a.2*b.2+B*b.2*a.2:=by rw [h1,h2]
    _=(A+B)*(a.2*b.2):=by rw [Int.add_mul,Int.mul_assoc,Int.mul_assoc,Int.mul_comm b.2]
theorem fr_sub {a b:Int×Int} {A B D:Int} (ha:IsFr a A D) (hb:IsFr b B D):mkOk (a.1*b.2-b.1*a.2) (a.2*b.2)=mkOk (A-B) D∧mkFr (a.1*b.2-b.1*a.2) (a.2*b.2)=mkFr (A-B) D:=by
  refine fr_cross (Int.mul_pos ha.dpos hb.dpos) ha.pos ?_
  have h1:=ha.eq
  have h2:=hb.eq
  calc (a.1*b.2-b.1*a.2)*D=(a.1*D)*b.2-(b.1*D)*a.2:=by rw [Int.sub_mul,Int.mul_right_comm,Int.mul_right_comm b.1]
    _=A*a.2*b.2-B*b.2*a.2:=by rw [h1,h2]
    _=(A-B)*(a.2*b.2):=by rw [Int.sub_mul,Int.mul_assoc,Int.mul_assoc,Int.mul_comm b.2]
theorem mul4 (a b c d:Int):a*b*(c*d)=a*c*(b*d):=by rw [Int.mul_assoc,Int.mul_assoc,Int.mul_left_comm b]
theorem fr_mul {a b:Int×Int} {A B D E:Int} (ha:IsFr a A D) (hb:IsFr b B E):mkOk (a.1*b.1) (a.2*b.2)=mkOk (A*B) (D*E)∧mkFr (a.1*b.1) (a.2*b.2)=mkFr (A*B) (D*E):=by
  refine fr_cross (Int.mul_pos ha.dpos hb.dpos) (Int.mul_pos ha.pos hb.pos) ?_
  have h1:=ha.eq
  have h2:=hb.eq
  calc (a.1*b.1)*(D*E)=(a.1*D)*(b.1*E):=by rw [mul4]
    _=(A*a.2)*(B*b.2):=by rw [h1,h2]
    _=(A*B)*(a.2*b.2):=by rw [mul4]
/-- numbers and denominators of a fraction are small -/
theorem IsFr.bd {a:Int×Int} {n d:Int} (h:IsFr a n d):1≤a.2∧a.2≤100000 ∧ -100000000≤a.1∧a.1≤100000000:=by
  have:=frB_iff.1 h.ok
  exact ⟨this.1,this.2.1,this.2.2.1,this.2.2.2.1⟩
theorem mul_bd {x y X Y:Int} (hx : -X≤x∧x≤X) (hy:0≤y∧y≤Y) : -(X*Y)≤x*y∧x*y≤X*Y:=by
  have hX:0≤X:=by omega
  have h1:X*y≤X*Y:=Int.mul_le_mul_of_nonneg_left hy.2 hX
  have h2:x*y≤X*y:=Int.mul_le_mul_of_nonneg_right hx.2 hy.1
  have h3:(-X)*y≤x*y:=Int.mul_le_mul_of_nonneg_right hx.1 hy.1
  rw [Int.neg_mul] at h3
  omega
theorem isFr_int {c:Int} (h1 : -100000000≤c) (h2:c≤100000000):IsFr (c,1) c 1:=⟨frB_iff.2 ⟨Int.le_refl _,by simp,h1,h2,by simp⟩,rfl,by decide⟩
end Go.Proofs.YtjblpcgkffhgfaaGreat
/- Lists of numbers below a bound, on the machine. Conditions: bounds that are ints. -/
set_option linter.all false
set_option linter.unusedSimpArgs false
set_option linter.unusedVariables false
namespace Go.Proofs.YtjblpcgkffhgfaaGreat
open Go Go.RowKit Am

theorem within_e (n lo hi:Int):Does Tryz.prog 77 [.int n,.int lo,.int hi] (.imm (.bool (rng n lo hi))):=by
  refine spec_imm Tryz.func77 rfl Tryz.ntmps77 cfOK (fun _ _=>by kernel_rfl) rfl (Nat.le_of_ble_eq_true rfl) ?_
  intro M0 w0
  rw [Tryz.results77]
  refine amGo ?_
  (simp only [xe,simprocAttr];refine ⟨_,rfl,rfl,Imp.eq ?_⟩)
  show AV.bool _=AV.bool _
  congr 1
  unfold rng
  by_cases h1:lo≤n<;>by_cases h2:n≤hi<;>simp [h1,h2]
theorem l1In_e (n lo hi:Int):Does Tryz.prog 95 [.int n,.int lo,.int hi] (.imm (.bool (rng n lo hi))):=by
  refine spec_imm Tryz.func95 rfl Tryz.ntmps95 cfOK (fun _ _=>by kernel_rfl) rfl (Nat.le_of_ble_eq_true rfl) ?_
  intro M0 w0
  rw [Tryz.results95]
  refine amGo ?_
  (simp only [xe,simprocAttr];refine ⟨_,rfl,rfl,Imp.eq ?_⟩)
  show AV.bool _=AV.bool _
  congr 1
  unfold rng
  by_cases h1:lo≤n<;>by_cases h2:n≤hi<;>simp [h1,h2]
theorem areBelowB1_d (x n:Int) (hn : -9223372036854775807≤n∧n≤9223372036854775807):Does Tryz.prog 146 [.int x,.lf (.ip [.val (.int .i64 n)] 0)] (.imm (.bool (!rng x 0 (n-1)))):=by
  refine spec_imm Tryz.func146 rfl Tryz.ntmps146 cfOK (fun _ _=>by kernel_rfl) rfl (Nat.le_of_ble_eq_true rfl) ?_
  intro M0 w0
  rw [Tryz.results146]
  refine amGo ?_
  ((try refine Or.inl ?_);refine ⟨_,(within_e _ _ _),.inl rfl,?_⟩;refine amC ?_)
  refine amGo ?_
  (simp only [xe,simprocAttr];refine ⟨_,rfl,rfl,Imp.eq ?_⟩)
  rfl
theorem areBelowB_d (n:Int) (xs:List Int) (hn : -9223372036854775807≤n∧n≤9223372036854775807):Does Tryz.prog 107 [.int n,.sl (.ints xs)] (.imm (.bool (allIn 0 (n-1) xs))):=by
  refine spec_imm Tryz.func107 rfl Tryz.ntmps107 cfOK (fun _ _=>by kernel_rfl) rfl (Nat.le_of_ble_eq_true rfl) ?_
  intro M0 w0
  rw [Tryz.results107]
  refine amGo ?_
  ((try refine Or.inl ?_);refine ⟨_,(containsFuncI_d xs _ [.ip [.val (.int .i64 n)] 0] (fun x => !rng x 0 (n-1)) rfl fun j hj=>areBelowB1_d _ n hn),.inl rfl,?_⟩;refine amC ?_)
  refine amGo ?_
  (simp only [xe,simprocAttr];refine ⟨_,rfl,rfl,Imp.eq ?_⟩)
  show AV.bool _=AV.bool _
  congr 1
  rw [List.not_any_eq_all_not]
  simp [allIn]
end Go.Proofs.YtjblpcgkffhgfaaGreat
/- Sums, differences and products of fractions, on the machine: the program's and the reference's. Conditions: fractions that are valid. -/
set_option linter.all false
set_option linter.unusedSimpArgs false
set_option linter.unusedVariables false
namespace Go.Proofs.YtjblpcgkffhgfaaGreat
open Go Go.RowKit Am

theorem isFrac_f (n d:Int):Does Tryz.prog 158 [frA (n,d)] (.imm (.bool (frB n d))) :=
  does_val (v := .bool (frB n d)) (fun _ _=>by kernel_rfl) fun M w us hm ha=>by
    obtain ⟨u,us',rfl,k1,k2⟩:=args_inv ha
    obtain rfl:=args_inv0 k2
    obtain ⟨a,b,rfl,h1,h2⟩:=ls_two k1
    obtain rfl:a = .int .i64 n:=h1
    obtain rfl:b = .int .i64 d:=h2
    exact isFrac_any w n d
theorem areFracs_f (a b:Int×Int) (ha:frB a.1 a.2=true) (hb:frB b.1 b.2=true):Does Tryz.prog 125 [frA a,frA b] (.imm (.bool true)):=by
  refine spec_imm Tryz.func125 rfl Tryz.ntmps125 cfOK (fun _ _=>by kernel_rfl) rfl (Nat.le_of_ble_eq_true rfl) ?_
  intro M0 w0
  rw [Tryz.results125]
  refine amGo ?_
  ((try refine Or.inl ?_);refine ⟨_,(isFrac_f a.1 a.2),.inl rfl,?_⟩;refine amC ?_)
  refine amGo ?_
  ((try refine Or.inl ?_);refine ⟨_,(fun _=>isFrac_f b.1 b.2),.inl rfl,?_⟩;refine amC ?_)
  refine amGo ?_
  (simp only [xe,simprocAttr];refine ⟨_,rfl,rfl,Imp.eq ?_⟩)
  rw [ha,hb]
  rfl
structure OpB (a b:Int×Int):Prop where
  h1 : -10000000000000≤a.1*b.2∧a.1*b.2≤10000000000000
  h2 : -10000000000000≤b.1*a.2∧b.1*a.2≤10000000000000
  h3:1≤a.2*b.2∧a.2*b.2≤10000000000
theorem opB {a b:Int×Int} {A B D E:Int} (ha:IsFr a A D) (hb:IsFr b B E):OpB a b:=by
  have h1:=ha.bd
  have h2:=hb.bd
  have h3:=Int.mul_pos ha.dpos hb.dpos
  have k1:=mul_bd (x:=a.1) (y:=b.2) (X:=100000000) (Y:=100000) ⟨by omega,by omega⟩ ⟨by omega,by omega⟩
  have k2:=mul_bd (x:=b.1) (y:=a.2) (X:=100000000) (Y:=100000) ⟨by omega,by omega⟩ ⟨by omega,by omega⟩
  have k3:=mul_bd (x:=a.2) (y:=b.2) (X:=100000) (Y:=100000) ⟨by omega,by omega⟩ ⟨by omega,by omega⟩
  exact ⟨by omega,by omega,by omega⟩
theorem addFracs_f {a b:Int×Int} {A B D:Int} (ha:IsFr a A D) (hb:IsFr b B D):Does Tryz.prog 71 [frA a,frA b] (.imm (.tup [frT (mkFr (A+B) D),blT (mkOk (A+B) D)])):=by
  obtain ⟨h1,h2,h3⟩:=opB ha hb
  obtain ⟨e1,e2⟩:=fr_add ha hb
  refine spec_imm Tryz.func71 rfl Tryz.ntmps71 cfOK (fun _ _=>by kernel_rfl) rfl (Nat.le_of_ble_eq_true rfl) ?_
  intro M0 w0
  rw [Tryz.results71]
  refine amGo ?_
  ((try refine Or.inl ?_);refine ⟨_,(areFracs_f a b ha.ok hb.ok),.inl rfl,?_⟩;refine amC ?_)
  refine amGo ?_
  refine awp_cond amQ (fun hc => ?_) (fun hc => ?_)
  · cases hc
  refine amGo ?_
  ((try refine Or.inl ?_);refine ⟨_,(makeFrac_d (a.1*b.2+b.1*a.2) (a.2*b.2) (by omega) (by omega) (by omega) (by omega)),amF,?_⟩;refine amC ?_)
  rw [e1,e2]
  refine amGo ?_
  (simp only [xec,simprocAttr];refine ⟨[_,_],⟨⟨amK,rfl⟩,rfl,trivial⟩,rfl,Imp.eq ?_⟩)
  rfl
theorem subFracs_f {a b:Int×Int} {A B D:Int} (ha:IsFr a A D) (hb:IsFr b B D):Does Tryz.prog 70 [frA a,frA b] (.imm (.tup [frT (mkFr (A-B) D),blT (mkOk (A-B) D)])):=by
  obtain ⟨h1,h2,h3⟩:=opB ha hb
  obtain ⟨e1,e2⟩:=fr_sub ha hb
  refine spec_imm Tryz.func70 rfl Tryz.ntmps70 cfOK (fun _ _=>by kernel_rfl) rfl (Nat.le_of_ble_eq_true rfl) ?_
  intro M0 w0
  rw [Tryz.results70]
  refine amGo ?_
  ((try refine Or.inl ?_);refine ⟨_,(areFracs_f a b ha.ok hb.ok),.inl rfl,?_⟩;refine amC ?_)
  refine amGo ?_
  refine awp_cond amQ (fun hc => ?_) (fun hc => ?_)
  · cases hc
  refine amGo ?_
  ((try refine Or.inl ?_);refine ⟨_,(makeFrac_d (a.1*b.2-b.1*a.2) (a.2*b.2) (by omega) (by omega) (by omega) (by omega)),amF,?_⟩;refine amC ?_)
  rw [e1,e2]
  refine amGo ?_
  (simp only [xec,simprocAttr];refine ⟨[_,_],⟨⟨amK,rfl⟩,rfl,trivial⟩,rfl,Imp.eq ?_⟩)
  rfl
theorem mulFracs_f {a b:Int×Int} {A B D E:Int} (ha:IsFr a A D) (hb:IsFr b B E) (hb' : -10000000≤b.1∧b.1≤10000000):Does Tryz.prog 72 [frA a,frA b] (.imm (.tup [frT (mkFr (A*B) (D*E)),blT (mkOk (A*B) (D*E))])):=by
  obtain ⟨-,-,h3⟩:=opB ha hb
  obtain ⟨e1,e2⟩:=fr_mul ha hb
  have h4:=ha.bd
  have k1 : -1000000000000000≤a.1*b.1∧a.1*b.1≤1000000000000000:=by
    rcases Int.lt_or_le b.1 0 with h | h
    · have:=mul_bd (x:=a.1) (y := -b.1) (X:=100000000) (Y:=10000000) ⟨by omega,by omega⟩ ⟨by omega,by omega⟩
      rw [Int.mul_neg] at this
      omega
    · have:=mul_bd (x:=a.1) (y:=b.1) (X:=100000000) (Y:=10000000) ⟨by omega,by omega⟩ ⟨by omega,by omega⟩
      omega
  refine spec_imm Tryz.func72 rfl Tryz.ntmps72 cfOK (fun _ _=>by kernel_rfl) rfl (Nat.le_of_ble_eq_true rfl) ?_
  intro M0 w0
  rw [Tryz.results72]
  refine amGo ?_
  ((try refine Or.inl ?_);refine ⟨_,(areFracs_f a b ha.ok hb.ok),.inl rfl,?_⟩;refine amC ?_)
  refine amGo ?_
  refine awp_cond amQ (fun hc => ?_) (fun hc => ?_)
  · cases hc
  refine amGo ?_
  ((try refine Or.inl ?_);refine ⟨_,(makeFrac_d (a.1*b.1) (a.2*b.2) (by omega) (by omega) (by omega) (by omega)),amF,?_⟩;refine amC ?_)
  rw [e1,e2]
  refine amGo ?_
  (simp only [xec,simprocAttr];refine ⟨[_,_],⟨⟨amK,rfl⟩,rfl,trivial⟩,rfl,Imp.eq ?_⟩)
  rfl
theorem l2Add_f {a b:Int×Int} {A B D:Int} (ha:IsFr a A D) (hb:IsFr b B D):Does Tryz.prog 73 [frA a,frA b] (.imm (.tup [frT (mkFr (A+B) D),blT (mkOk (A+B) D)])):=by
  obtain ⟨h1,h2,h3⟩:=opB ha hb
  obtain ⟨e1,e2⟩:=fr_add ha hb
  refine spec_imm Tryz.func73 rfl Tryz.ntmps73 cfOK (fun _ _=>by kernel_rfl) rfl (Nat.le_of_ble_eq_true rfl) ?_
  intro M0 w0
  rw [Tryz.results73]
  refine amGo ?_
  ((try refine Or.inl ?_);refine ⟨_,(l2Make_d (a.1*b.2+b.1*a.2) (a.2*b.2) (by omega) (by omega) (by omega) (by omega)),amF,?_⟩;refine amC ?_)
  rw [e1,e2]
  refine amGo ?_
  (simp only [xec,simprocAttr];refine ⟨[_,_],⟨⟨amK,rfl⟩,rfl,trivial⟩,rfl,Imp.eq ?_⟩)
  rfl
theorem l2Neg_f (a:Int×Int) (h : -9223372036854775807≤a.1∧a.1≤9223372036854775807):Does Tryz.prog 164 [frA a] (.imm (frA (-a.1,a.2))):=by
  refine spec_imm Tryz.func164 rfl Tryz.ntmps164 cfOK (fun _ _=>by kernel_rfl) rfl (Nat.le_of_ble_eq_true rfl) ?_
  intro M0 w0
  rw [Tryz.results164]
  refine amGo ?_
  (simp only [xec,simprocAttr];refine ⟨_,⟨amK,rfl⟩,rfl,Imp.eq ?_⟩)
  rfl
theorem IsFr.neg {a:Int×Int} {n d:Int} (h:IsFr a n d):IsFr (-a.1,a.2) (-n) d:=by
  have h1:=frB_iff.1 h.ok
  refine ⟨frB_iff.2 ⟨h1.1,h1.2.1,?_,?_,?_⟩,?_,h.pos⟩
  · show -100000000 ≤ -a.1
    omega
  · show -a.1≤100000000
    omega
  · show Int.gcd (-a.1) a.2=1
    rw [Int.neg_gcd]
    exact h1.2.2.2.2
  · show -a.1*d = -n*a.2
    rw [Int.neg_mul,Int.neg_mul,h.eq]
theorem l2Sub_f {a b:Int×Int} {A B D:Int} (ha:IsFr a A D) (hb:IsFr b B D):Does Tryz.prog 128 [frA a,frA b] (.imm (.tup [frT (mkFr (A-B) D),blT (mkOk (A-B) D)])):=by
  have hb1:=hb.bd
  have hc:=l2Add_f ha hb.neg
  rw [← Int.sub_eq_add_neg] at hc
  refine spec_imm Tryz.func128 rfl Tryz.ntmps128 cfOK (fun _ _=>by kernel_rfl) rfl (Nat.le_of_ble_eq_true rfl) ?_
  intro M0 w0
  rw [Tryz.results128]
  refine amGo ?_
  (refine amB ?_;refine awp_anyM [2] 6 [] (by kernel_rfl) (by kernel_rfl) (by kernel_rfl) (by kernel_rfl) (by kernel_rfl) ?_;refine amM ?_)
  ((try refine Or.inl ?_);refine ⟨_,(l2Neg_f b ⟨by omega,by omega⟩),amF,?_⟩;refine amC ?_)
  ((try refine Or.inl ?_);refine ⟨_,hc,amF,?_⟩;refine amC ?_)
  refine amGo ?_
  (simp only [xec,simprocAttr];refine ⟨[_,_],⟨⟨amK,rfl⟩,rfl,trivial⟩,rfl,Imp.eq ?_⟩)
  rfl
theorem l2Mul_f {a b:Int×Int} {A B D E:Int} (ha:IsFr a A D) (hb:IsFr b B E) (ha' : -10000000≤a.1∧a.1≤10000000):Does Tryz.prog 130 [frA a,frA b] (.imm (.tup [frT (mkFr (A*B) (D*E)),blT (mkOk (A*B) (D*E))])):=by
  obtain ⟨-,-,h3⟩:=opB ha hb
  obtain ⟨e1,e2⟩:=fr_mul ha hb
  have h4:=hb.bd
  have k1 : -1000000000000000≤a.1*b.1∧a.1*b.1≤1000000000000000:=by
    rw [Int.mul_comm]
    rcases Int.lt_or_le a.1 0 with h | h
    · have:=mul_bd (x:=b.1) (y := -a.1) (X:=100000000) (Y:=10000000) ⟨by omega,by omega⟩ ⟨by omega,by omega⟩
      rw [Int.mul_neg] at this
      omega
    · have:=mul_bd (x:=b.1) (y:=a.1) (X:=100000000) (Y:=10000000) ⟨by omega,by omega⟩ ⟨by omega,by omega⟩
      omega
  refine spec_imm Tryz.func130 rfl Tryz.ntmps130 cfOK (fun _ _=>by kernel_rfl) rfl (Nat.le_of_ble_eq_true rfl) ?_
  intro M0 w0
  rw [Tryz.results130]
  refine amGo ?_
  ((try refine Or.inl ?_);refine ⟨_,(l2Make_d (a.1*b.1) (a.2*b.2) (by omega) (by omega) (by omega) (by omega)),amF,?_⟩;refine amC ?_)
  rw [e1,e2]
  refine amGo ?_
  (simp only [xec,simprocAttr];refine ⟨[_,_],⟨⟨amK,rfl⟩,rfl,trivial⟩,rfl,Imp.eq ?_⟩)
  rfl
end Go.Proofs.YtjblpcgkffhgfaaGreat
