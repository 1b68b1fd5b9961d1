/- The asks against a ratio that is a little less, and the least debts and delays of asks: the reference's functions on the machine. Conditions: games that are whole, ratios in bounds. -/
import Derived.Test.YtnblieajjclipaaGreatOwP
import Derived.Test.YtnblieajjclipaaGreatZArH
set_option linter.all false
namespace Go.Proofs.YtnblieajjclipaaGreat
open Go Go.RowKit Am
theorem aep {n:Nat} (hn:n<=60) {a:Int} (h:0<=a/\a<=71400):0<=((n:Int)*1000+1)*a/\((n:Int)*1000+1)*a<=60001*71400:=⟨Int.mul_nonneg (by omega) h.1,Int.mul_le_mul (by omega) h.2 h.1 (by omega)⟩
theorem Nu (g:GmT) (b0:Bool) {a:Int×Int} (hle:g.list.length<=60) (h1:0<=a.1/\a.1<=71400) (h2:0<=a.2/\a.2<=71400):Does Tryz.prog 42 [gA g b0,frA a] (.imm (frA (jM g.list.length*a.2,jM g.list.length*a.1-1))):=by
 have u1:=aep hle h1
 have u2:=aep hle h2
 refine aF Tryz.func42 rfl Tryz.ntmps42 aQ (fun _ _=>by kernel_rfl) rfl (Nat.le_of_ble_eq_true rfl) ?_
 intro M0 w0
 rw [Tryz.results42]
 refine ah ?_
 (simp only [xec,simprocAttr];refine ⟨_,⟨amK,rfl⟩,rfl,Imp.eq ?_⟩)
 rfl
theorem Vl {m s:List (List Int)} {g:GmT} (hf:aU m s g) {a:Int×Int} (h1:0<=a.1/\a.1<=71400) (h2:0<=a.2/\a.2<=71400) {i r:Nat} (hi:i<g.list.length) (hr:r<s.length) {k:Nat} (hk:k<((g.ch.getD i []).getD r []).length) :
  ∃ t x y:Int,((g.ch.getD i []).getD r []).getD k []=[(i:Int),t,x,y,(((g.ch.getD i []).getD r []).getD k []).getD 4 0,(((g.ch.getD i []).getD r []).getD k []).getD 5 0]/\0<=t/\t<g.list.length/\0<=y/\y<=119/\(0<=a.2*x/\a.2*x<=8496600)/\(0<=a.1*y/\a.1*y<=8496600):=by
 have hcl:=hf.clen
 have hrow:=hf.c.row i r (by omega) hr
 obtain ⟨t,u,x,y,hce,ht,hu,hx0,hx1,hy0,hy1⟩:=hrow.el (((g.ch.getD i []).getD r []).getD k []) (by rw [getD_in hk];exact List.getElem_mem hk)
 have m1:=Int.mul_nonneg h2.1 hx0
 have m2:=Int.mul_le_mul h2.2 hx1 hx0 (by omega)
 have m3:=Int.mul_nonneg h1.1 hy0
 have m4:=Int.mul_le_mul h1.2 hy1 hy0 (by omega)
 exact ⟨t,x,y,by rw [hce];rfl,by omega,by omega,hy0,hy1,⟨m1,by omega⟩,m3,by omega⟩
theorem Qb {m s:List (List Int)} {g:GmT} (hf:aU m s g) {a:Int×Int} (h1:0<=a.1/\a.1<=71400) (h2:0<=a.2/\a.2<=71400) {qs:List Int} (ha:rF s g.list.length qs) (d:Bool):∀ i,i<g.list.length->∀ k,k<(askRow g qs i).length -> -600000000<=iK g.list.length a.1 a.2 d ((askRow g qs i).getD k [])/\iK g.list.length a.1 a.2 d ((askRow g qs i).getD k [])<=600000000:=fun i hi k hk=>by
 have hle:=hf.le
 obtain ⟨r,hr1,hr⟩:=ha i hi
 unfold askRow at hk ⊢
 rw [hr1,Int.toNat_natCast] at hk ⊢
 obtain ⟨t,x,y,hce,ht0,ht1,hy0,hy1,⟨m1,m2⟩,m3,m4⟩:=Vl hf h1 h2 hi hr hk
 have hg:aW a.1 a.2 (((g.ch.getD i []).getD r []).getD k [])=a.2*x-a.1*y:=by rw [hce];rfl
 have hc3:(((g.ch.getD i []).getD r []).getD k []).getD 3 0=y:=by rw [hce];rfl
 cases d
 ·show -600000000 <= -aW a.1 a.2 _ /\ -aW a.1 a.2 _<=_
  rw [hg]
  omega
 ·show -600000000<=(g.list.length:Int)*(-aW a.1 a.2 _-_)+1/\(g.list.length:Int)*(-aW a.1 a.2 _-_)+1<=_
  rw [hg,hc3]
  have n1:=Int.mul_le_mul_of_nonneg_left (show -(a.2*x-a.1*y)-y<=8500000 by omega) (show (0:Int)<=g.list.length by omega)
  have n2:=Int.mul_le_mul_of_nonneg_left (show -8500000 <= -(a.2*x-a.1*y)-y by omega) (show (0:Int)<=g.list.length by omega)
  omega
set_option maxRecDepth 8000 in
set_option maxHeartbeats 4000000 in
theorem Gj {m s:List (List Int)} {g:GmT} (hf:aU m s g) (b0:Bool) {a:Int×Int} (h1:0<=a.1/\a.1<=71400) (h2:0<=a.2/\a.2<=71400) {qs:List Int} (hql:qs.length=g.list.length) (ha:rF s g.list.length qs) (d:Bool) {T:List Int} (hT:OwL (iK g.list.length a.1 a.2 d) g qs T) (hTb:∀ i,i<g.list.length->T.getD i 0<=1000000000000) :
  bP Tryz.prog 43 [gA g b0,frA a,.sl (.ints qs),.bool d] [] [] (.lf (.own 0)) [.row 3 (.ints T)]:=by
 have hle:=hf.le
 have hcl:=hf.clen
 have hS:=hT.sol
 have hlb:=Qb hf h1 h2 ha d
 have hVb:∀ k i,i<g.list.length->0<=(owT (iK g.list.length a.1 a.2 d) g qs k).getD i 0/\(owT (iK g.list.length a.1 a.2 d) g qs k).getD i 0<=1000000000000:=fun k i hi=>by
  have:=wG hS k i hi
  have:=hTb i hi
  omega
 have hch4:(ch4 g.ch).length=g.ch.length:=by simp [ch4]
 refine aZ Tryz.func43 rfl Tryz.ntmps43 aQ (fun _ _=>by kernel_rfl) rfl rfl rfl ?_
 intro M0 w0 S φ0
 rw [Tryz.results43]
 refine ah ?_
 refine aA (α:=Nat) (fun _=>[]) [2,3,4,5,9] (fun k=>[.box [.b (.sl (.k 2 g.list)),.b (.sl (.kii 4 (ch4 g.ch))),.b (.val (.bool b0))],.box [.b (.val (.int .i64 a.1)),.b (.val (.int .i64 a.2))],.row 3 (.ints (owT (iK g.list.length a.1 a.2 d) g qs k))]) (fun _=>True) (fun k=>owU (iK g.list.length a.1 a.2 d) g qs (fun i=>T.getD i 0) k) 0 (by exact dJ) trivial fun k _ =>?_
 have hkb:=hVb k
 have hkl:=yG (iK g.list.length a.1 a.2 d) g qs k
 have hnx:owT (iK g.list.length a.1 a.2 d) g qs (k+1)=owS (iK g.list.length a.1 a.2 d) g qs (owT (iK g.list.length a.1 a.2 d) g qs k) g.list.length:=rfl
 have hlt:=fun h=>Oc hS (k:=k) h
 have hdn:=fun h=>Ld hS (k:=k) h
 rw [hnx] at hlt hdn
 generalize hV:owT (iK g.list.length a.1 a.2 d) g qs k=V at *
 simp only [xr,simprocAttr]
 refine ah ?_
 refine aA (α:=Nat) (fun i=>[(11,true,.int i)]) [2,3,4,5,9,10] (fun i=>[.box [.b (.sl (.k 2 g.list)),.b (.sl (.kii 4 (ch4 g.ch))),.b (.val (.bool b0))],.box [.b (.val (.int .i64 a.1)),.b (.val (.int .i64 a.2))],.row 3 (.ints V),.row 3 (.ints (owS (iK g.list.length a.1 a.2 d) g qs V i))]) (fun i=>i<=g.list.length) (fun i=>g.list.length-i) 0 (by exact dJ) (Nat.zero_le _) fun i hi =>?_
 have hil:=Qp (iK g.list.length a.1 a.2 d) g qs V i
 have hsu:=V3 (iK g.list.length a.1 a.2 d) g qs V i
 simp only [xr,simprocAttr]
 refine ah ?_
 refine aj amQ (fun hd1 =>?_) (fun hd1 =>?_)
 ·have hd1:=of_decide_eq_true hd1
  have hi':i<g.list.length:=by omega
  obtain ⟨r,hr1,hr⟩:=ha i hi'
  have h4:=lJ (show i<g.ch.length by omega)
  have hrl:=hf.c.len i (by omega)
  have h4l:((ch4 g.ch).getD i []).length=(g.ch.getD i []).length:=by rw [h4,List.length_map]
  have h42:=lZ (show i<g.ch.length by omega) (show r<(g.ch.getD i []).length by omega)
  have har:askRow g qs i=(g.ch.getD i []).getD r []:=by unfold askRow;rw [hr1,Int.toNat_natCast]
  have hlbi:=hlb i hi'
  rw [har] at hsu hlbi
  have hbd:=fun k hk=>Vl hf h1 h2 hi' hr (k:=k) hk
  have hrow4:=kQ hf.prob (hf.c.row i r (by omega) hr)
  refine ah ?_
  rw [hr1,Int.toNat_natCast,h42]
  generalize hR:(g.ch.getD i []).getD r []=R at *
  have hge:=zV (iK g.list.length a.1 a.2 d) V R
  refine aA (α:=Nat) (fun k=>[(14,true,.int k),(12,true,.int (owM (iK g.list.length a.1 a.2 d) V R k))]) [2,3,4,5,9,10,11,13] (fun _=>[.box [.b (.sl (.k 2 g.list)),.b (.sl (.kii 4 (ch4 g.ch))),.b (.val (.bool b0))],.box [.b (.val (.int .i64 a.1)),.b (.val (.int .i64 a.2))],.row 3 (.ints V),.row 3 (.ints (owS (iK g.list.length a.1 a.2 d) g qs V i))]) (fun k=>k<=R.length) (fun k=>R.length-k) 0 (by exact bW) (Nat.zero_le _) fun j hj =>?_
  have hml:(R.map c4).length=R.length:=by simp
  have hto:∀ k,k<R.length->(R.getD k []).getD 1 0=toC (R.getD k [])/\toC (R.getD k [])<g.list.length:=fun k hk=>by
   obtain ⟨t,x,y,hce,q1,q2,_⟩:=hbd k hk
   unfold toC
   rw [hce]
   show t=(t.toNat:Int)/\t.toNat<_
   omega
  have hm0:=(hge j).1
  have hm1:owM (iK g.list.length a.1 a.2 d) V R j<=2000000000000:=IE (by omega) j fun k hk=>by
   have h1:=hlbi k (by omega)
   have h2:=hkb _ (hto k (by omega)).2
   omega
  simp only [xr,simprocAttr]
  refine ah ?_
  refine aj amQ (fun he =>?_) (fun he =>?_)
  ·have he:=of_decide_eq_true he
   have hj':j<R.length:=by omega
   have hc4:(R.map c4).getD j []=c4 (R.getD j []):=iw hj' [] []
   obtain ⟨t,x,y,hce,q1,q2,q3,q4,⟨m1,m2⟩,m3,m4⟩:=hbd j hj'
   obtain ⟨o1,o2⟩:=hto j hj'
   have hkt:=hkb _ o2
   have hlj:=hlbi j hj'
   have e2:(R.getD j []).getD 2 0=x:=by rw [hce];rfl
   have e3:(R.getD j []).getD 3 0=y:=by rw [hce];rfl
   have hgd:=zJ (R.getD j []) a (by rw [e2];exact m1) (by rw [e2];omega) (by rw [e3];exact m3) (by rw [e3];omega)
   have hgb : -8496600<=aW a.1 a.2 (R.getD j [])/\aW a.1 a.2 (R.getD j [])<=8496600:=by
    show -8496600<=a.2*(R.getD j []).getD 2 0-a.1*(R.getD j []).getD 3 0/\a.2*(R.getD j []).getD 2 0-a.1*(R.getD j []).getD 3 0<=_
    rw [e2,e3]
    omega
   have n1:=Int.mul_le_mul_of_nonneg_left (show -aW a.1 a.2 (R.getD j [])-y<=8500000 by omega) (show (0:Int)<=g.list.length by omega)
   have n2:=Int.mul_le_mul_of_nonneg_left (show -8500000 <= -aW a.1 a.2 (R.getD j [])-y by omega) (show (0:Int)<=g.list.length by omega)
   have l1:iK g.list.length a.1 a.2 true (R.getD j [])=(g.list.length:Int)*(-aW a.1 a.2 (R.getD j [])-y)+1:=by rw [← e3];rfl
   have l0:iK g.list.length a.1 a.2 false (R.getD j []) = -aW a.1 a.2 (R.getD j []):=rfl
   have f1:(c4 (R.getD j [])).getD 1 0=toC (R.getD j []):=o1
   have f3:(c4 (R.getD j [])).getD 3 0=y:=e3
   refine ah ?_
   ((try refine Or.inl ?_);refine ⟨_,(Ij a),.inl rfl,?_⟩;refine amC ?_)
   rw [hc4]
   ((try refine Or.inl ?_);refine ⟨_,(hgd),.inl rfl,?_⟩;refine amC ?_)
   refine ah ?_
   refine Bf [(15,true,.int (iK g.list.length a.1 a.2 d (R.getD j [])))] [2,3,4,5,9,10,11,12,13,14] [.box [.b (.sl (.k 2 g.list)),.b (.sl (.kii 4 (ch4 g.ch))),.b (.val (.bool b0))],.box [.b (.val (.int .i64 a.1)),.b (.val (.int .i64 a.2))],.row 3 (.ints V),.row 3 (.ints (owS (iK g.list.length a.1 a.2 d) g qs V i))] ?_ ?_
   ·refine aj amQ (fun hdl =>?_) (fun hdl =>?_)
    ·subst hdl
     refine ah ?_
     rw [hc4,f3]
     refine amC ?_
     refine ah ?_
     rw [l1]
     refine .inl ?_
     exact bW
    ·subst hdl
     refine ah ?_
     rw [l0]
     refine .inl ?_
     exact bW
   simp only [xr,simprocAttr]
   refine ah ?_
   rw [hc4,f1,Int.toNat_natCast]
   refine amC ?_
   ((try refine Or.inl ?_);refine ⟨_,(Gl _ _),.inl rfl,?_⟩;refine amC ?_)
   refine ah ?_
   refine ⟨j+1,by omega,by omega,.inl ?_⟩
   exact bW
  ·have he:=of_decide_eq_false he
   obtain rfl:j=R.length:=by omega
   refine ah ?_
   refine ⟨i+1,by omega,by omega,.inr ⟨4,Nat.le_of_ble_eq_true rfl,aT ?_ rfl rfl rfl⟩⟩
   exact dw (by rw [hsu]<;>rfl)
 ·have hd1:=of_decide_eq_false hd1
  obtain rfl:i=g.list.length:=by omega
  refine ah ?_
  ((try refine Or.inl ?_);refine ⟨_,(KG _ _),.inl rfl,?_⟩;refine amC ?_)
  refine ah ?_
  refine aj amQ (fun hs =>?_) (fun hs =>?_)
  ·have hs:=of_decide_eq_true hs
   have hTV:=Yr hT (hdn hs)
   rw [hTV]
   refine ah ?_
   (simp only [aC,aH];refine bf [2] rfl ⟨rfl,trivial⟩ rfl rfl rfl rfl rfl ?_;try rfl)
  ·have hs:=of_decide_eq_false hs
   (refine aK 2 rfl ?_;simp only [xz,simprocAttr])
   (refine lH 2 3 rfl rfl (by decide) rfl rfl ?_;simp only [xm,simprocAttr])
   refine ah ?_
   refine ⟨k+1,hlt hs,.inr ⟨3,Nat.le_of_ble_eq_true rfl,aT ?_ rfl rfl rfl⟩⟩
   exact dw (by rw [hnx]<;>rfl)
structure FhT (s:List (List Int)) (g:GmT) (a b:Int) (A D E:List Int):Prop where
 al:A.length=g.list.length
 ask:Tf s g (jM g.list.length*a-1) (jM g.list.length*b) A g.list.length
 debts:OwL (iK g.list.length a b false) g A D
 delays:OwL (iK g.list.length a b true) g A E
 db:∀ i,i<g.list.length->0<=D.getD i 0/\D.getD i 0<=1000000000000
 eb:∀ i,i<g.list.length->0<=E.getD i 0/\E.getD i 0<=1000000000000
theorem Tf.ok {s:List (List Int)} {g:GmT} {p q:Int} {A:List Int} (h:Tf s g p q A g.list.length):rF s g.list.length A:=fun i hi=>by
 obtain ⟨r,h1,h2,_⟩:=h.at_ i hi
 exact ⟨r,h1,h2⟩
theorem Xf {n:Nat} (hn:n<=60) {a b:Int} (h1:1<=a/\a<=71400) (h2:1<=b/\b<=71400):(0<=jM n*a-1/\jM n*a-1<=5000000000)/\(1<=jM n*b/\jM n*b<=5000000000)/\(jM n*a-1)*b<a*(jM n*b):=by
 have u1:1<=jM n/\jM n<=60001:=by
  show 1<=(n:Int)*1000+1/\(n:Int)*1000+1<=60001
  omega
 have m1:=Int.mul_le_mul u1.2 h1.2 (by omega) (by omega)
 have m2:=Int.mul_le_mul u1.2 h2.2 (by omega) (by omega)
 have m3:=Int.mul_le_mul u1.1 h1.1 (by omega) (by omega)
 have m4:=Int.mul_le_mul u1.1 h2.1 (by omega) (by omega)
 refine ⟨⟨by omega,by omega⟩,⟨by omega,by omega⟩,?_⟩
 rw [Int.sub_mul,Int.one_mul,Int.mul_comm (jM n) a,Int.mul_assoc]
 omega
theorem acO {m s:List (List Int)} {t:dD} {g:GmT} (hx:GmX m s t g) {a b:Int} (hr:Tj s g a b) (h1:1<=a/\a<=71400) (h2:b<=71400):∃ A D E,FhT s g a b A D E:=by
 have hf:=hx.full
 have hle:=hf.le
 have hb:=hr.nb
 obtain ⟨⟨u1,u2⟩,⟨u3,u4⟩,u5⟩:=Xf hle h1 ⟨hb,h2⟩
 obtain ⟨A,hA,hask,hno⟩:=Hw hf ⟨u1,u2⟩ ⟨by omega,u4⟩ (Qj hx u1 (by omega) (hr.least _ _ u1 u3 u5)) g.list.length (Nat.le_refl _)
 have hOw:∀ d,∃ T,OwL (iK g.list.length a b d) g A T/\∀ i,i<g.list.length->0<=T.getD i 0/\T.getD i 0<=1000000000000:=fun d=>by
  obtain ⟨S,hS,hSb⟩:∃ S,OwB (iK g.list.length a b d) g A S/\∀ i,i<g.list.length->S i<=g.list.length*600000000:=ZP hf hask.ok (G:=600000000) (by omega) (Qb hf (a:=(a,b)) ⟨by omega,h1.2⟩ ⟨by omega,h2⟩ hask.ok d) (Yt hf h1 ⟨hb,h2⟩ hask.ok hno d)
  have key:∀ N k,owU (iK g.list.length a b d) g A S k<=N->∃ k',owT (iK g.list.length a b d) g A (k'+1)=owT (iK g.list.length a b d) g A k':=by
   intro N
   induction N with
   | zero =>
    intro k hk
    refine ⟨k,Classical.byContradiction fun h =>?_⟩
    have:=Oc hS h
    omega
   | succ N ih =>
    intro k hk
    by_cases h:owT (iK g.list.length a b d) g A (k+1)=owT (iK g.list.length a b d) g A k
    ·exact ⟨k,h⟩
    ·have:=Oc hS h
     exact ih (k+1) (by omega)
  obtain ⟨k,hk⟩:=key _ 0 (Nat.le_refl _)
  refine ⟨_,Ld hS hk,fun i hi =>?_⟩
  have h3:=wG hS k i hi
  have h4:=hSb i hi
  have h5:=Int.mul_le_mul_of_nonneg_right (show (g.list.length:Int)<=60 by omega) (show (0:Int)<=600000000 by omega)
  omega
 obtain ⟨D,hD,hDb⟩:=hOw false
 obtain ⟨E,hE,hEb⟩:=hOw true
 exact ⟨A,D,E,hA,hask,hD,hE,hDb,hEb⟩
abbrev fhV (A D E:List Int) (ok:Bool):AV := .tup [.one (.b (.sl (.ints A))),.one (.b (.sl (.ints D))),.one (.b (.sl (.ints E))),blT ok]
theorem EK {m s:List (List Int)} {x:Int} (hq:(gmQ m s x).2=false) {a b:Int} (hr:Tj s (gmQ m s x).1 a b) (h1:1<=a/\a<=71400) (h2:b<=71400) {A D E:List Int} (hT:FhT s (gmQ m s x).1 a b A D E):Does Tryz.prog 7 [prA m s,.int x] (.imm (fhV A D E true)):=by
 obtain ⟨t,hx⟩:=X0 hq
 have hf:=hx.full
 have hle:=hf.le
 have hb:=hr.nb
 have hG:=fC (gV hq)
 rw [hq] at hG
 have hX:Does Tryz.prog 40 [gA (gmQ m s x).1 false] (.imm (.tup [frT (a,b),.one (.b (.val (.bool true)))])):=vY hx false (o:=some (a,b)) hr
 obtain ⟨⟨u1,u2⟩,⟨u3,u4⟩,u5⟩:=Xf hle h1 ⟨hb,h2⟩
 have hU:=Nu (gmQ m s x).1 false (a:=(a,b)) hle ⟨by show 0<=a;omega,h1.2⟩ ⟨by show 0<=b;omega,h2⟩
 have hA:Does Tryz.prog 41 [gA (gmQ m s x).1 false,frA (jM (gmQ m s x).1.list.length*b,jM (gmQ m s x).1.list.length*a-1)] (.imm (.sl (.ints A))):=nG (KD hf false ⟨u1,u2⟩ ⟨by omega,u4⟩ hT.al hT.ask)
 have hO0:Does Tryz.prog 43 [gA (gmQ m s x).1 false,frA (a,b),.sl (.ints A),.bool false] (.imm (.sl (.ints D))):=nG (Gj hf false (a:=(a,b)) ⟨by show 0<=a;omega,h1.2⟩ ⟨by show 0<=b;omega,h2⟩ hT.al hT.ask.ok false hT.debts fun i hi=>(hT.db i hi).2)
 have hO1:Does Tryz.prog 43 [gA (gmQ m s x).1 false,frA (a,b),.sl (.ints A),.bool true] (.imm (.sl (.ints E))):=nG (Gj hf false (a:=(a,b)) ⟨by show 0<=a;omega,h1.2⟩ ⟨by show 0<=b;omega,h2⟩ hT.al hT.ask.ok true hT.delays fun i hi=>(hT.eb i hi).2)
 generalize jM (gmQ m s x).1.list.length*b=ub at *
 generalize jM (gmQ m s x).1.list.length*a-1=ua at *
 generalize (gmQ m s x).1=g at *
 refine aF Tryz.func7 rfl Tryz.ntmps7 aQ (fun _ _=>by kernel_rfl) rfl (Nat.le_of_ble_eq_true rfl) ?_
 intro M0 w0
 rw [Tryz.results7]
 refine ah ?_
 ((try refine Or.inl ?_);refine ⟨_,(hG),amF,?_⟩;refine amC ?_)
 refine ah ?_
 refine aj amQ (fun hz =>?_) (fun hz =>?_)
 ·cases hz
 refine ah ?_
 ((try refine Or.inl ?_);refine ⟨_,(hX),.inl rfl,?_⟩;refine amC ?_)
 refine ah ?_
 refine aj amQ (fun hy =>?_) (fun hy =>?_)
 ·simp at hy
  omega
 refine ah ?_
 ((try refine Or.inl ?_);refine ⟨_,(hU),.inl rfl,?_⟩;refine amC ?_)
 ((try refine Or.inl ?_);refine ⟨_,(hA),amF,?_⟩;refine amC ?_)
 refine ah ?_
 ((try refine Or.inl ?_);refine ⟨_,(hO0),amF,?_⟩;refine amC ?_)
 ((try refine Or.inl ?_);refine ⟨_,(hO1),amF,?_⟩;refine amC ?_)
 refine ah ?_
 (simp only [xec,simprocAttr];refine ⟨[_,_,_,_],⟨rfl,rfl,rfl,rfl,trivial⟩,rfl,Imp.eq ?_⟩)
 rfl
theorem EI {m s:List (List Int)} {x:Int} (hq:(gmQ m s x).2=true):Does Tryz.prog 7 [prA m s,.int x] (.imm (fhV [] [] [] false)):=by
 cases ht:bH m s x []
 ·skip
  refine aF Tryz.func7 rfl Tryz.ntmps7 aQ (fun _ _=>by kernel_rfl) rfl (Nat.le_of_ble_eq_true rfl) ?_
  intro M0 w0
  rw [Tryz.results7]
  refine ah ?_
  ((try refine Or.inl ?_);refine ⟨_,(kY ht),amF,?_⟩;refine amC ?_)
  refine ah ?_
  refine aj amQ (fun hz =>?_) (fun hz =>?_)
  ·refine jC ?_
   (refine aK 2 rfl ?_;simp only [xz,simprocAttr])
   (refine aK 3 rfl ?_;simp only [xz,simprocAttr])
   (refine aK 4 rfl ?_;simp only [xz,simprocAttr])
   refine ah ?_
   (simp only [xec,simprocAttr];refine ⟨[_,_,_,_],⟨rfl,rfl,rfl,rfl,trivial⟩,rfl,Imp.eq ?_⟩)
   rfl
  ·cases hz
 ·have hG:=fC ht
  rw [hq] at hG
  refine aF Tryz.func7 rfl Tryz.ntmps7 aQ (fun _ _=>by kernel_rfl) rfl (Nat.le_of_ble_eq_true rfl) ?_
  intro M0 w0
  rw [Tryz.results7]
  refine ah ?_
  ((try refine Or.inl ?_);refine ⟨_,(hG),amF,?_⟩;refine amC ?_)
  refine ah ?_
  refine aj amQ (fun hz =>?_) (fun hz =>?_)
  ·refine jC ?_
   (refine aK 2 rfl ?_;simp only [xz,simprocAttr])
   (refine aK 3 rfl ?_;simp only [xz,simprocAttr])
   (refine aK 4 rfl ?_;simp only [xz,simprocAttr])
   refine ah ?_
   (simp only [xec,simprocAttr];refine ⟨[_,_,_,_],⟨rfl,rfl,rfl,rfl,trivial⟩,rfl,Imp.eq ?_⟩)
   rfl
  ·cases hz
theorem EJ {m s:List (List Int)} {x:Int} (hq:(gmQ m s x).2=false) {o:Option (Int×Int)} (ho:zh s (gmQ m s x).1 o) (hn:∀ a b,o=some (a,b)->a=0):Does Tryz.prog 7 [prA m s,.int x] (.imm (fhV [] [] [] false)):=by
 obtain ⟨t,hx⟩:=X0 hq
 have hG:=fC (gV hq)
 rw [hq] at hG
 have hX:=vY hx false ho
 generalize (gmQ m s x).1=g at *
 cases o with
 | none =>
  have hX:Does Tryz.prog 40 [gA g false] (.imm (.tup [frT (0,0),.one (.b (.val (.bool false)))])):=hX
  refine aF Tryz.func7 rfl Tryz.ntmps7 aQ (fun _ _=>by kernel_rfl) rfl (Nat.le_of_ble_eq_true rfl) ?_
  intro M0 w0
  rw [Tryz.results7]
  refine ah ?_
  ((try refine Or.inl ?_);refine ⟨_,(hG),amF,?_⟩;refine amC ?_)
  refine ah ?_
  refine aj amQ (fun hz =>?_) (fun hz =>?_)
  ·cases hz
  refine ah ?_
  ((try refine Or.inl ?_);refine ⟨_,(hX),.inl rfl,?_⟩;refine amC ?_)
  refine ah ?_
  refine aj amQ (fun hy =>?_) (fun hy =>?_)
  ·refine jC ?_
   (refine aK 3 rfl ?_;simp only [xz,simprocAttr])
   (refine aK 4 rfl ?_;simp only [xz,simprocAttr])
   (refine aK 5 rfl ?_;simp only [xz,simprocAttr])
   refine ah ?_
   (simp only [xec,simprocAttr];refine ⟨[_,_,_,_],⟨rfl,rfl,rfl,rfl,trivial⟩,rfl,Imp.eq ?_⟩)
   rfl
  ·cases hy
 | some p =>
  obtain ⟨a,b⟩:=p
  obtain rfl:=hn a b rfl
  have hX:Does Tryz.prog 40 [gA g false] (.imm (.tup [frT (0,b),.one (.b (.val (.bool true)))])):=hX
  refine aF Tryz.func7 rfl Tryz.ntmps7 aQ (fun _ _=>by kernel_rfl) rfl (Nat.le_of_ble_eq_true rfl) ?_
  intro M0 w0
  rw [Tryz.results7]
  refine ah ?_
  ((try refine Or.inl ?_);refine ⟨_,(hG),amF,?_⟩;refine amC ?_)
  refine ah ?_
  refine aj amQ (fun hz =>?_) (fun hz =>?_)
  ·cases hz
  refine ah ?_
  ((try refine Or.inl ?_);refine ⟨_,(hX),.inl rfl,?_⟩;refine amC ?_)
  refine ah ?_
  refine aj amQ (fun hy =>?_) (fun hy =>?_)
  ·refine jC ?_
   (refine aK 3 rfl ?_;simp only [xz,simprocAttr])
   (refine aK 4 rfl ?_;simp only [xz,simprocAttr])
   (refine aK 5 rfl ?_;simp only [xz,simprocAttr])
   refine ah ?_
   (simp only [xec,simprocAttr];refine ⟨[_,_,_,_],⟨rfl,rfl,rfl,rfl,trivial⟩,rfl,Imp.eq ?_⟩)
   rfl
  ·cases hy
theorem Ba (m s:List (List Int)) (x:Int):∃ A D E ok,(A.length<=60/\D.length<=60/\E.length<=60)/\(∀ k,(0<=A.getD k 0/\A.getD k 0<=1000000000000)/\(0<=D.getD k 0/\D.getD k 0<=1000000000000)/\0<=E.getD k 0/\E.getD k 0<=1000000000000)/\Does Tryz.prog 7 [prA m s,.int x] (.imm (fhV A D E ok)):=by
 cases hq:(gmQ m s x).2
 ·obtain ⟨t,hx⟩:=X0 hq
  have hle:=hx.full.le
  have hpl:=bI hx.full.prob
  obtain ⟨o,ho,hob⟩:=Eh hx.full
  by_cases hn:∀ a b,o=some (a,b)->a=0
  ·exact ⟨[],[],[],false,by simp,by simp,EJ hq ho hn⟩
  ·cases o with
   | none=>exact absurd (fun a b e=>by cases e) hn
   | some p =>
    obtain ⟨a,b⟩:=p
    have ho:Tj s (gmQ m s x).1 a b:=ho
    have h0:=ho.na
    have ha:1<=a:=by
     rcases Int.lt_or_le 0 a with h | h
     ·omega
     ·exact absurd (fun a' b' e=>by cases e;omega) hn
    obtain ⟨h1,h2⟩:=hob a b rfl
    obtain ⟨A,D,E,hT⟩:=acO hx ho ⟨ha,h1⟩ h2
    have hout:∀ {L:List Int} (_:L.length=(gmQ m s x).1.list.length) (_:∀ i,i<(gmQ m s x).1.list.length->0<=L.getD i 0/\L.getD i 0<=1000000000000) k,0<=L.getD k 0/\L.getD k 0<=1000000000000:=fun {L} hl hb k=>by
     by_cases hk:k<(gmQ m s x).1.list.length
     ·exact hb k hk
     ·rw [List.getD_eq_getElem?_getD,List.getElem?_eq_none (by omega)]
      simp
    refine ⟨A,D,E,true,⟨by rw [hT.al];exact hle,by rw [hT.debts.len];exact hle,by rw [hT.delays.len];exact hle⟩,fun k=>⟨hout hT.al (fun i hi =>?_) k,hout hT.debts.len hT.db k,hout hT.delays.len hT.eb k⟩,EK hq ho ⟨ha,h1⟩ h2 hT⟩
    obtain ⟨r,k1,k2⟩:=hT.ask.ok i hi
    omega
 ·exact ⟨[],[],[],false,by simp,by simp,EI hq⟩
abbrev hdR (m s:List (List Int)) (x:Int) (a:Int×Int) (A D E:List Int):AV := .tup [.agg [.b (.sl (.ii m)),.b (.sl (.ii s))],.one (.b (.val (.int .i64 x))),frT a,.one (.b (.sl (.ints A))),.one (.b (.sl (.ints D))),.one (.b (.sl (.ints E)))]
abbrev isR (m s:List (List Int)) (x:Int) (q:List (List Int)):AV := .tup [.agg [.b (.sl (.ii m)),.b (.sl (.ii s))],.one (.b (.val (.int .i64 x))),.one (.b (.sl (.ii q)))]
theorem JR {bs:List Int} (hb:∀ b∈bs,0<=b/\b<256):∃ m s x q,Does Tryz.prog 19 [.lf (.b (.raw bs))] (.imm (isR m s x q)):=by
 have hc:bn 0 (bs,0,0):=⟨hb,Int.le_refl _,Int.le_refl _⟩
 obtain ⟨m,s,x,c1,a1,a2,b1,d1⟩:=UM (c:=(bs,0,0)) (hc.mono (by omega))
 obtain ⟨q,c2,hc2,d2⟩:=OA (m:=m) (s:=s) (x:=x) (M:=2000) (by omega) ((b1 _ hc).mono (by omega))
 refine ⟨m,s,x,q,?_⟩
 refine aF Tryz.func19 rfl Tryz.ntmps19 aQ (fun _ _=>by kernel_rfl) rfl (Nat.le_of_ble_eq_true rfl) ?_
 intro M0 w0
 rw [Tryz.results19]
 refine ah ?_
 (refine .inr (.inl (aJ [1] (d1) rfl rfl rfl rfl ⟨rfl,trivial⟩ rfl rfl rfl rfl ?_));refine amC ?_)
 (refine amB ?_;refine jV 0 [(5,[1]),(6,[0])] [0,1] [(5,[0]),(6,[1])] [(5,1,eu c2,.sl (.ii q))] ?_;refine Mc ?_)
 (refine ⟨dh (d2) rfl rfl rfl rfl rfl rfl rfl,?_⟩;refine xA ?_)
 refine ah ?_
 (simp only [xec,simprocAttr];refine ⟨[_,_,_],⟨⟨amK,rfl⟩,rfl,rfl,trivial⟩,rfl,Imp.eq ?_⟩)
 rfl
set_option maxRecDepth 8000 in
set_option maxHeartbeats 4000000 in
theorem MX {bs:List Int} (hb:∀ b∈bs,0<=b/\b<256):∃ m s x a A D E,Does Tryz.prog 16 [.lf (.b (.raw bs))] (.imm (hdR m s x a A D E)):=by
 have hc:bn 0 (bs,0,0):=⟨hb,Int.le_refl _,Int.le_refl _⟩
 obtain ⟨m,s,x,c1,a1,a2,b1,d1⟩:=UM (c:=(bs,0,0)) (hc.mono (by omega))
 have hc1:bn 1000 c1:=(b1 _ hc).mono (by omega)
 obtain ⟨A0,D0,E0,ok,⟨l1,l2,l3⟩,hbd,hF⟩:=Ba m s x
 cases ok
 ·obtain ⟨A1,c2,v1,w1,hc2,e1⟩:=EG (m:=m) (s:=s) (x:=x) 2 (by omega) (by omega) hc1
  obtain ⟨D1,c3,v2,w2,hc3,e2⟩:=EG (m:=m) (s:=s) (x:=x) 10 (by omega) (by omega) hc2
  obtain ⟨E1,c4,v3,w3,hc4,e3⟩:=EG (m:=m) (s:=s) (x:=x) 50 (by omega) (by omega) hc3
  obtain ⟨a,c5,hc5,d6⟩:=GK (m:=m) (s:=s) (x:=x) (by omega) hc4
  obtain ⟨A,k1,hk1,n1⟩:=jD (V:=A1) (by omega) (fun k=>by have:=w1 k;omega) (by omega) hc5
  obtain ⟨D,k2,hk2,n2⟩:=jD (V:=D1) (by omega) (fun k=>by have:=w2 k;omega) (by omega) hk1
  obtain ⟨E,k3,hk3,n3⟩:=jD (V:=E1) (by omega) (fun k=>by have:=w3 k;omega) (by omega) hk2
  refine ⟨m,s,x,a,A,D,E,?_⟩
  refine aF Tryz.func16 rfl Tryz.ntmps16 aQ (fun _ _=>by kernel_rfl) rfl (Nat.le_of_ble_eq_true rfl) ?_
  intro M0 w0
  rw [Tryz.results16]
  refine ah ?_
  (refine .inr (.inl (aJ [2] (d1) rfl rfl rfl rfl ⟨rfl,trivial⟩ rfl rfl rfl rfl ?_));refine amC ?_)
  refine ah ?_
  ((try refine Or.inl ?_);refine ⟨_,(hF),amF,?_⟩;refine amC ?_)
  refine ah ?_
  refine aj amQ (fun h =>?_) (fun h =>?_)
  ·(refine amB ?_;refine jV 0 [(3,[2]),(7,[2]),(11,[2])] [2] [(3,[]),(7,[]),(11,[])] [(3,2,eu c2,.sl (.ints A1)),(7,2,eu c3,.sl (.ints D1)),(11,2,eu c4,.sl (.ints E1))] ?_;refine Mc ?_)
   (refine ⟨dh (e1) rfl rfl rfl rfl rfl rfl rfl,?_⟩;refine xA ?_)
   (refine ⟨dh (e2) rfl rfl rfl rfl rfl rfl rfl,?_⟩;refine xA ?_)
   (refine ⟨dh (e3) rfl rfl rfl rfl rfl rfl rfl,?_⟩;refine xA ?_)
   refine ah ?_
   (refine .inr (.inl (aJ [2] (d6) rfl rfl rfl rfl ⟨rfl,trivial⟩ rfl rfl rfl rfl ?_));refine amC ?_)
   (refine amB ?_;refine jV 0 [(5,[2]),(8,[2]),(11,[2]),(12,[0]),(14,[1])] [0,1,2] [(5,[0,1]),(8,[0,1]),(11,[0,1]),(12,[1,2]),(14,[0,2])] [(5,2,eu k1,.sl (.ints A)),(8,2,eu k2,.sl (.ints D)),(11,2,eu k3,.sl (.ints E))] ?_;refine Mc ?_)
   (refine ⟨dh (n1) rfl rfl rfl rfl rfl rfl rfl,?_⟩;refine xA ?_)
   (refine ⟨dh (n2) rfl rfl rfl rfl rfl rfl rfl,?_⟩;refine xA ?_)
   (refine ⟨dh (n3) rfl rfl rfl rfl rfl rfl rfl,?_⟩;refine xA ?_)
   refine ah ?_
   (simp only [xec,simprocAttr];refine ⟨[_,_,_,_,_,_],⟨⟨amK,rfl⟩,rfl,⟨amK,rfl⟩,rfl,rfl,rfl,trivial⟩,rfl,Imp.eq ?_⟩)
   rfl
  ·cases h
 ·obtain ⟨a,c5,hc5,d6⟩:=GK (m:=m) (s:=s) (x:=x) (by omega) hc1
  obtain ⟨A,k1,hk1,n1⟩:=jD (V:=A0) (by omega) (fun k=>by have:=hbd k;omega) (by omega) hc5
  obtain ⟨D,k2,hk2,n2⟩:=jD (V:=D0) (by omega) (fun k=>by have:=hbd k;omega) (by omega) hk1
  obtain ⟨E,k3,hk3,n3⟩:=jD (V:=E0) (by omega) (fun k=>by have:=hbd k;omega) (by omega) hk2
  refine ⟨m,s,x,a,A,D,E,?_⟩
  refine aF Tryz.func16 rfl Tryz.ntmps16 aQ (fun _ _=>by kernel_rfl) rfl (Nat.le_of_ble_eq_true rfl) ?_
  intro M0 w0
  rw [Tryz.results16]
  refine ah ?_
  (refine .inr (.inl (aJ [2] (d1) rfl rfl rfl rfl ⟨rfl,trivial⟩ rfl rfl rfl rfl ?_));refine amC ?_)
  refine ah ?_
  ((try refine Or.inl ?_);refine ⟨_,(hF),amF,?_⟩;refine amC ?_)
  refine ah ?_
  refine aj amQ (fun h =>?_) (fun h =>?_)
  ·cases h
  refine ah ?_
  (refine .inr (.inl (aJ [2] (d6) rfl rfl rfl rfl ⟨rfl,trivial⟩ rfl rfl rfl rfl ?_));refine amC ?_)
  (refine amB ?_;refine jV 0 [(5,[2]),(8,[2]),(11,[2]),(12,[0]),(14,[1])] [0,1,2] [(5,[0,1]),(8,[0,1]),(11,[0,1]),(12,[1,2]),(14,[0,2])] [(5,2,eu k1,.sl (.ints A)),(8,2,eu k2,.sl (.ints D)),(11,2,eu k3,.sl (.ints E))] ?_;refine Mc ?_)
  (refine ⟨dh (n1) rfl rfl rfl rfl rfl rfl rfl,?_⟩;refine xA ?_)
  (refine ⟨dh (n2) rfl rfl rfl rfl rfl rfl rfl,?_⟩;refine xA ?_)
  (refine ⟨dh (n3) rfl rfl rfl rfl rfl rfl rfl,?_⟩;refine xA ?_)
  refine ah ?_
  (simp only [xec,simprocAttr];refine ⟨[_,_,_,_,_,_],⟨⟨amK,rfl⟩,rfl,⟨amK,rfl⟩,rfl,rfl,rfl,trivial⟩,rfl,Imp.eq ?_⟩)
  rfl
end Go.Proofs.YtnblieajjclipaaGreat
