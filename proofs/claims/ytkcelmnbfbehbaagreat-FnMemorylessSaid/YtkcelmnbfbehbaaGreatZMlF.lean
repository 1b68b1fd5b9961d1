/- What the law on memoryless algorithms says, in plain. Conditions: the best algorithm is told. -/
import Derived.Test.YtkcelmnbfbehbaaGreatMlP
import Derived.Test.YtkcelmnbfbehbaaGreatZRG4
set_option linter.all false
namespace Go.Proofs.YtkcelmnbfbehbaaGreat
open Am
structure MlF (m s:List (List Int)) (x:Int) (a:Int×Int) (T:List (List Int)):Prop where
 prob:aO m s=true
 ex:exB m s T x=(a,true)
 ok:rH a
 low:Int.gcd a.1 a.2=1
 all:∀ F,(∀ i r,i<m.length->r<s.length->F i r∈srv s m.length r)->(exB m s (jr m.length s.length F) x).2=true->rH (exB m s (jr m.length s.length F) x).1/\Int.gcd (exB m s (jr m.length s.length F) x).1.1 (exB m s (jr m.length s.length F) x).1.2=1/\a.1*(exB m s (jr m.length s.length F) x).1.2<=(exB m s (jr m.length s.length F) x).1.1*a.2
 no:(gmQ m s x).2=true->grP m s x=((0,0),false)
 yes:(gmQ m s x).2=false->(grP m s x).2=true/\rH (grP m s x).1/\Int.gcd (grP m s x).1.1 (grP m s x).1.2=1/\(grP m s x).1.1*a.2<=a.1*(grP m s x).1.2
theorem Uo {m s nx:List (List Int)} {x:Int} (h:(exB m s nx x).2=true):Int.gcd (exB m s nx x).1.1 (exB m s nx x).1.2=1:=by
 unfold exB at h ⊢
 cases hq:(prQ m s nx x).2
 ·rw [hq] at h
  have hF:=lJ hq
  simp only [cond_false] at h ⊢
  cases ho:exO (egs (prQ m s nx x).1.rows) with
  | none=>rw [ho] at h;cases h
  | some p =>
   obtain ⟨a,b⟩:=p
   exact ((vW (JG hF)).2 a b ho).low
 ·rw [hq] at h;cases h
theorem VB {m s:List (List Int)} {x:Int} (hb:bmB m s x=true):MlF m s x (bmF m s x) (bmV m s x):=by
 unfold bmB at hb
 unfold bmF bmV
 cases ht:bn m s x []
 ·rw [AB ht] at hb;cases hb
 obtain ⟨hp,⟨y,rfl,hy⟩,-,-⟩:=iK ht
 by_cases h2:eU m s<=300
 ·rw [AL ht h2] at hb ⊢
  have hV:∀ i,((fun j=>exB m s (dL m s j) y) i).2=true->rH ((fun j=>exB m s (dL m s j) y) i).1:=fun i h=>CP h
  have hmin:=Hf hV (eU m s)
  cases ho:bT (fun j=>exB m s (dL m s j) y) (eU m s) with
  | none=>rw [ho] at hb;cases hb
  | some p =>
   rw [ho] at hmin
   obtain ⟨k1,k2,k3⟩:=oH ho
   have k2:(exB m s (dL m s p.1) y).2=true:=k2
   have k3:p.2=(exB m s (dL m s p.1) y).1:=k3
   have hok:rH p.2:=by rw [k3];exact CP k2
   show MlF m s y p.2 (dL m s p.1)
   refine ⟨hp,?_,hok,by rw [k3];exact Uo k2,fun F hF h =>?_,fun hg =>?_,fun hg =>?_⟩
   ·rw [k3,← k2]
   ·obtain ⟨j,hj,e⟩:=Xe hp hF
    rw [e] at h ⊢
    obtain ⟨q,hq1,hq2⟩:=hmin j hj h
    cases hq1
    exact ⟨CP h,Uo h,hq2⟩
   ·unfold grP
    rw [Ib hg]
    rfl
   ·have hC:=SL hg (ZY k2)
    rw [← k3] at hC
    have hr:=Nh hg
    obtain ⟨o,ho1,ho2⟩:=Lu (xU hg)
    obtain rfl:=tN hr ho1
    unfold rH at hok
    unfold grP
    cases hw:grW m s y with
    | none =>
     rw [hw] at hr
     exact absurd hC (hr _ _ (by omega) (by omega))
    | some q =>
     obtain ⟨c,d⟩:=q
     rw [hw] at hr
     have hr:ac7 s (gmQ m s y).1 c d:=hr
     have hbd:=ho2 c d hw
     refine ⟨rfl,⟨hr.na,hbd.1,hr.nb,hbd.2⟩,hr.low,?_⟩
     show c*p.2.2<=p.2.1*d
     exact Int.not_lt.1 fun hlt=>hr.least _ _ (by omega) (by omega) hlt hC
 ·rw [G9 h2] at hb;cases hb
theorem Zt {a:Int×Int} (h:rH a) (hl:Int.gcd a.1 a.2=1):frB a.1 a.2=true:=by
 unfold rH at h
 exact qM.2 ⟨by omega,by omega,by omega,by omega,hl⟩
end Go.Proofs.YtkcelmnbfbehbaaGreat
namespace Go.Proofs.YtkcelmnbfbehbaaGreat
open Go Go.RowKit Am
theorem Lp (xs:List (List Int)):Does Tryz.prog 11 [.sl (.ii xs),.sl (.ii xs)] (.imm (.bool true)):=by
 refine aC Tryz.func11 rfl Tryz.ntmps11 aX (fun _ _=>by kernel_rfl) rfl (Nat.le_of_ble_eq_true rfl) ?_
 intro M0 w0
 rw [Tryz.results11]
 (refine dJ 0 rfl fun hf =>?_;simp only [xp,simprocAttr] at hf;simp only [xf,simprocAttr] at hf)
 refine ah ?_
 refine aj amQ (fun hc =>?_) (fun hc =>?_)
 ·simp at hc
 refine ah ?_
 refine au (α:=Nat) (fun k=>[(5,true,.int k)]) [0,1] (fun _=>[]) (fun k=>k<=xs.length) (fun k=>xs.length-k) 0 (by exact dQ) (Nat.zero_le _) fun k hk =>?_
 simp only [xr,simprocAttr]
 refine ah ?_
 refine aj amQ (fun hd =>?_) (fun hd =>?_)
 ·have hd:=of_decide_eq_true hd
  have hk':k<xs.length:=by omega
  refine ah ?_
  ((try refine Or.inl ?_);refine ⟨_,(YJ _),.inl rfl,?_⟩;refine amC ?_)
  refine ah ?_
  refine aj amQ (fun he =>?_) (fun he =>?_)
  ·simp at he
  ·refine ah ?_
   refine ⟨k+1,by omega,by omega,.inl ?_⟩
   exact dQ
 ·refine ah ?_
  refine bV ?_
  rfl
theorem Wy:Does Tryz.prog 11 [.val (.slice none 0 0),.sl (.ii [])] (.imm (.bool true)) :=
 Does.args (Lp []) fun M us ha=>by
  obtain ⟨u,us',rfl,h1,h2⟩:=dh ha
  exact qh (aae (c := .ii []) rfl trivial h1) h2
theorem MB {a b:Int×Int} (ha:rH a) (la:Int.gcd a.1 a.2=1) (hb:rH b) (lb:Int.gcd b.1 b.2=1):Does Tryz.prog 27 [frA a,frA b] (.imm (.tup [.one (.b (.val (.int .i64 (vT (a.1*b.2) (b.1*a.2))))),blT true])):=by
 have h1:=LY a b (Zt ha la) (Zt hb lb)
 unfold rH at ha hb
 have q1:0<=a.1*b.2/\a.1*b.2<=71400*71400:=⟨Int.mul_nonneg ha.1 (by omega),Int.mul_le_mul ha.2.1 hb.2.2.2 (by omega) (by decide)⟩
 have q2:0<=b.1*a.2/\b.1*a.2<=71400*71400:=⟨Int.mul_nonneg hb.1 (by omega),Int.mul_le_mul hb.2.1 ha.2.2.2 (by omega) (by decide)⟩
 have h2:=sH a b (by unfold I64;omega) (by unfold I64;omega)
 refine aC Tryz.func27 rfl Tryz.ntmps27 aX (fun _ _=>by kernel_rfl) rfl (Nat.le_of_ble_eq_true rfl) ?_
 intro M0 w0
 rw [Tryz.results27]
 refine ah ?_
 ((try refine Or.inl ?_);refine ⟨_,(h1),.inl rfl,?_⟩;refine amC ?_)
 refine ah ?_
 refine aj amQ (fun hc =>?_) (fun hc =>?_)
 ·cases hc
 refine ah ?_
 ((try refine Or.inl ?_);refine ⟨_,(h2),.inl rfl,?_⟩;refine amC ?_)
 refine ah ?_
 (simp only [xec,simprocAttr];refine ⟨[_,_],⟨rfl,rfl,trivial⟩,rfl,Imp.eq ?_⟩)
 rfl
theorem Ht {x y:Int} (h:x<=y):vT x y<=0:=by
 unfold vT
 split
 ·decide
 ·split
  ·omega
  ·decide
theorem adB {m s:List (List Int)} {x:Int} (hg:(gmQ m s x).2=false):bG Tryz.prog 30 [prA m s,.int x] [] [] (.tup [.one (.own 0),blT true]) [.row 145 (.k 2 (gmQ m s x).1.list)]:=by
 refine bY Tryz.func30 rfl Tryz.ntmps30 aX (fun _ _=>by kernel_rfl) rfl rfl rfl ?_
 intro M0 w0 S φ0
 rw [Tryz.results30]
 refine ah ?_
 (refine .inr (.inl (bP [] (JW hg) rfl rfl rfl rfl trivial rfl rfl rfl rfl ?_));refine amC ?_)
 refine ah ?_
 refine aj amQ (fun hc =>?_) (fun hc =>?_)
 ·cases hc
 refine ah ?_
 (simp only [aG,aN];refine kM (vs:=[_,_]) [2] rfl ⟨rfl,trivial⟩ rfl rfl rfl rfl ⟨rfl,rfl,trivial⟩ ?_;try rfl)
theorem adC {m s:List (List Int)} {x:Int} (hg:(gmQ m s x).2=false):Does Tryz.prog 30 [prA m s,.int x] (.imm (.tup [.one (.b (.sl (.k 2 (gmQ m s x).1.list))),blT true])):=nP (adB hg)
theorem pos_0 {m s:List (List Int)} {x:Int} (hg:(gmQ m s x).2=true):Does Tryz.prog 30 [prA m s,.int x] (.imm (.tup [.one (.b (.val (.slice none 0 0))),blT false])):=by
 refine aC Tryz.func30 rfl Tryz.ntmps30 aX (fun _ _=>by kernel_rfl) rfl (Nat.le_of_ble_eq_true rfl) ?_
 intro M0 w0
 rw [Tryz.results30]
 refine ah ?_
 (refine .inr (.inl (fU (JV hg) rfl rfl rfl rfl rfl rfl rfl ?_));refine amC ?_)
 refine ah ?_
 refine aj amQ (fun hc =>?_) (fun hc =>?_)
 ·refine ah ?_
  (simp only [xe,simprocAttr];refine ⟨[_,_],⟨rfl,rfl,trivial⟩,rfl,Imp.eq ?_⟩)
  rfl
 ·cases hc
theorem Sl {bs:List Int} (h:65536<(bs.length:Int)):Does Tryz.prog 4 [.lf (.b (.raw bs))] (.imm (.bool true)):=by
 refine aC Tryz.func4 rfl Tryz.ntmps4 aX (fun _ _=>by kernel_rfl) rfl (Nat.le_of_ble_eq_true rfl) ?_
 intro M0 w0
 rw [Tryz.results4]
 refine ah ?_
 ((try refine Or.inl ?_);refine ⟨_,(N9 bs),.inl rfl,?_⟩;refine amC ?_)
 refine ah ?_
 refine aj amQ (fun h0 =>?_) (fun h0 =>?_)
 ·refine ah ?_
  refine bV ?_
  rfl
 ·simp at h0;omega
theorem Sj {bs:List Int} {m s:List (List Int)} {x:Int} (hsm:¬ 65536<(bs.length:Int)) (hD:Does Tryz.prog 21 [.lf (.b (.raw bs))] (.imm (mlR m s x))) (hb:bmB m s x=false):Does Tryz.prog 4 [.lf (.b (.raw bs))] (.imm (.bool true)):=by
 have hI:=rP m s x hb
 have hS:=ku m s x
 rw [hb] at hS
 refine aC Tryz.func4 rfl Tryz.ntmps4 aX (fun _ _=>by kernel_rfl) rfl (Nat.le_of_ble_eq_true rfl) ?_
 intro M0 w0
 rw [Tryz.results4]
 refine ah ?_
 ((try refine Or.inl ?_);refine ⟨_,(N9 bs),.inl rfl,?_⟩;refine amC ?_)
 refine ah ?_
 refine aj amQ (fun h0 =>?_) (fun h0 =>?_)
 ·simp at h0;omega
 refine ah ?_
 ((try refine Or.inl ?_);refine ⟨_,(hD),amF,?_⟩;refine amC ?_)
 refine ah ?_
 ((try refine Or.inl ?_);refine ⟨_,(hI),.inl rfl,?_⟩;refine amC ?_)
 refine ah ?_
 ((try refine Or.inl ?_);refine ⟨_,(hS),amF,?_⟩;refine amC ?_)
 refine ah ?_
 ((try refine Or.inl ?_);refine ⟨_,(fun _=>Wy),.inl rfl,?_⟩;refine amC ?_)
 refine ah ?_
 refine aj amQ (fun h1 =>?_) (fun h1 =>?_)
 ·simp at h1
 refine ah ?_
 refine aj amQ (fun h2 =>?_) (fun h2 =>?_)
 ·refine ah ?_
  refine bV ?_
  rfl
 ·cases h2
abbrev bxF (a:Int×Int):Ob := .box [.b (.val (.int .i64 a.1)),.b (.val (.int .i64 a.2))]
set_option maxRecDepth 20000 in
set_option maxHeartbeats 4000000 in
theorem Oz {bs:List Int} {m s:List (List Int)} {x:Int} (hsm:¬ 65536<(bs.length:Int)) (hD:Does Tryz.prog 21 [.lf (.b (.raw bs))] (.imm (mlR m s x))) (hb:bmB m s x=true):Does Tryz.prog 4 [.lf (.b (.raw bs))] (.imm (.bool true)):=by
 have hF:=VB hb
 have hI:=rU m s x hb
 have hS:=ku m s x
 rw [hb,if_pos rfl,if_pos rfl] at hS
 generalize bmF m s x=a at *
 generalize bmV m s x=T at *
 clear hb
 have hp:=hF.prob
 have hok:=hF.ok
 have hlow:=hF.low
 have hE:=jS m s T x
 rw [hF.ex] at hE
 have hE1:=jS m s (jr m.length s.length (gdF m s)) x
 have hE2:=jS m s (jr m.length s.length (lzF m s)) x
 have hA1:=hF.all (gdF m s) fun i r _ hr=>UH hp i hr
 have hA2:=hF.all (lzF m s) fun i r hi hr=>Z8 hp hi hr
 have hL1:=EN hp
 have hL2:=J9 hp
 generalize jr m.length s.length (gdF m s)=T1 at *
 generalize jr m.length s.length (lzF m s)=T2 at *
 generalize exB m s T1 x=e1 at *
 generalize exB m s T2 x=e2 at *
 obtain ⟨v1,c1⟩:=e1
 obtain ⟨v2,c2⟩:=e2
 have hG:=zA m s x
 have hH:=zV m s x
 have hN:=hF.no
 have hY:=hF.yes
 have hP1:=adC (m:=m) (s:=s) (x:=x)
 have hP0:=pos_0 (m:=m) (s:=s) (x:=x)
 generalize grP m s x=gr at *
 obtain ⟨g,cg⟩:=gr
 generalize gmQ m s x=gq at *
 obtain ⟨gq,bq⟩:=gq
 clear hF
 dsimp only at *
 refine aC Tryz.func4 rfl Tryz.ntmps4 aX (fun _ _=>by kernel_rfl) rfl (Nat.le_of_ble_eq_true rfl) ?_
 intro M0 w0
 rw [Tryz.results4]
 refine ah ?_
 ((try refine Or.inl ?_);refine ⟨_,(N9 bs),.inl rfl,?_⟩;refine amC ?_)
 refine ah ?_
 refine aj amQ (fun h0 =>?_) (fun h0 =>?_)
 ·simp at h0;omega
 refine ah ?_
 ((try refine Or.inl ?_);refine ⟨_,(hD),amF,?_⟩;refine amC ?_)
 refine ah ?_
 ((try refine Or.inl ?_);refine ⟨_,(hI),amF,?_⟩;refine amC ?_)
 refine ah ?_
 ((try refine Or.inl ?_);refine ⟨_,(hS),amF,?_⟩;refine amC ?_)
 refine ah ?_
 ((try refine Or.inl ?_);refine ⟨_,(fun _=>Lp T),.inl rfl,?_⟩;refine amC ?_)
 refine ah ?_
 refine aj amQ (fun h1 =>?_) (fun h1 =>?_)
 ·simp at h1
 refine ah ?_
 refine aj amQ (fun h2 =>?_) (fun h2 =>?_)
 ·cases h2
 refine ah ?_
 ((try refine Or.inl ?_);refine ⟨_,(hE),amF,?_⟩;refine amC ?_)
 refine ah ?_
 refine aj amQ (fun h3 =>?_) (fun h3 =>?_)
 ·simp at h3
 refine ah ?_
 ((try refine Or.inl ?_);refine ⟨_,(hL1),amF,?_⟩;refine amC ?_)
 refine ah ?_
 ((try refine Or.inl ?_);refine ⟨_,(hL2),amF,?_⟩;refine amC ?_)
 refine ah ?_
 refine aj amQ (fun h4 =>?_) (fun h4 =>?_)
 ·simp at h4
 refine ah ?_
 ((try refine Or.inl ?_);refine ⟨_,(hE1),amF,?_⟩;refine amC ?_)
 refine ah ?_
 refine G8 [] [3,4,6,15] [.box [.b (.sl (.ii m)),.b (.sl (.ii s))],bxF a,bxF a,bxF a,bxF v1] ?_ ?_
 ·refine aj amQ (fun hc =>?_) (fun hc =>?_)
  ·obtain ⟨k1,k2,k3⟩:=hA1 hc
   have hq:=Ht k3
   have hC:=MB hok hlow k1 k2
   generalize vT (a.1*v1.2) (v1.1*a.2)=cv at hq hC
   refine ah ?_
   ((try refine Or.inl ?_);refine ⟨_,(hC),amF,?_⟩;refine amC ?_)
   refine ah ?_
   refine aj amQ (fun h5 =>?_) (fun h5 =>?_)
   ·simp at h5;omega
   refine ah ?_
   refine .inl ?_
   exact dQ
  ·refine ah ?_
   refine .inl ?_
   exact dQ
 simp only [xr,simprocAttr]
 refine ah ?_
 ((try refine Or.inl ?_);refine ⟨_,(hE2),amF,?_⟩;refine amC ?_)
 refine ah ?_
 refine G8 [] [3,4,6] [.box [.b (.sl (.ii m)),.b (.sl (.ii s))],bxF a,bxF a,bxF a,bxF v1,bxF v2] ?_ ?_
 ·refine aj amQ (fun hc =>?_) (fun hc =>?_)
  ·obtain ⟨k1,k2,k3⟩:=hA2 hc
   have hq:=Ht k3
   have hC:=MB hok hlow k1 k2
   generalize vT (a.1*v2.2) (v2.1*a.2)=cv at hq hC
   refine ah ?_
   ((try refine Or.inl ?_);refine ⟨_,(hC),amF,?_⟩;refine amC ?_)
   refine ah ?_
   refine aj amQ (fun h5 =>?_) (fun h5 =>?_)
   ·simp at h5;omega
   refine ah ?_
   refine .inl ?_
   exact dQ
  ·refine ah ?_
   refine .inl ?_
   exact dQ
 simp only [xr,simprocAttr]
 refine ah ?_
 ((try refine Or.inl ?_);refine ⟨_,(hG),amF,?_⟩;refine amC ?_)
 refine ah ?_
 ((try refine Or.inl ?_);refine ⟨_,(hH),amF,?_⟩;refine amC ?_)
 refine ah ?_
 refine aj amQ (fun h6 =>?_) (fun h6 =>?_)
 ·simp at h6
 cases bq
 ·obtain ⟨k1,k2,k3,k4⟩:=hY rfl
  subst k1
  have hq:=Ht k4
  have hC:=MB k2 k3 hok hlow
  generalize vT (g.1*a.2) (a.1*g.2)=cv at hq hC
  refine ah ?_
  ((try refine Or.inl ?_);refine ⟨_,(hP1 rfl),amF,?_⟩;refine amC ?_)
  refine ah ?_
  refine aj amQ (fun h7 =>?_) (fun h7 =>?_)
  ·simp at h7
  refine ah ?_
  refine aj amQ (fun h8 =>?_) (fun h8 =>?_)
  ·cases h8
  refine ah ?_
  ((try refine Or.inl ?_);refine ⟨_,(hC),amF,?_⟩;refine amC ?_)
  refine ah ?_
  refine bV ?_
  simp
  omega
 ·have e:=hN rfl
  cases e
  refine ah ?_
  ((try refine Or.inl ?_);refine ⟨_,(hP0 rfl),.inl rfl,?_⟩;refine amC ?_)
  refine ah ?_
  refine aj amQ (fun h7 =>?_) (fun h7 =>?_)
  ·simp at h7
  refine ah ?_
  refine aj amQ (fun h8 =>?_) (fun h8 =>?_)
  ·refine ah ?_
   refine bV ?_
   rfl
  ·cases h8
end Go.Proofs.YtkcelmnbfbehbaaGreat
