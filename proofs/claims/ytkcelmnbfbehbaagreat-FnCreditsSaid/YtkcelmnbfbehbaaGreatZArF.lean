/- The least credit on the machine: the program's function, by rounds. Conditions: games that are whole, ratios in bounds. -/
import Derived.Test.YtkcelmnbfbehbaaGreatRA4
set_option linter.all false
namespace Go.Proofs.YtkcelmnbfbehbaaGreat
open Go Go.RowKit Am
theorem Uo {m s:List (List Int)} {g:GmT} (hf:bf m s g) {num den:Int} (hn:0<=num/\num<=1000000) (hd:0<=den/\den<=1000000) (hno:¬ ∃ C,CrP g.list.length (rqR s) (gmE g num den) C):Does Tryz.prog 45 [gI g,frA (num,den)] (.imm (.tup [.one (.b (.val (.slice none 0 0))),.one (.b (.val (.bool false)))])):=by
 obtain ⟨W,b,hWl,hW0,hS,hdec⟩:=QM hf hn hd
 refine aF Tryz.func45 rfl Tryz.ntmps45 aP (fun _ _=>by kernel_rfl) rfl (Nat.le_of_ble_eq_true rfl) ?_
 intro M0 w0
 rw [Tryz.results45]
 refine ah ?_
 (refine .inr (.inl (fC (Dk hf hn hd) rfl rfl rfl rfl rfl rfl rfl ?_));refine amC ?_)
 (refine .inr (.inl (fC (hS) rfl rfl rfl rfl rfl rfl rfl ?_));refine amC ?_)
 refine ah ?_
 ((try refine Or.inl ?_);refine ⟨_,(BA W hW0),.inl rfl,?_⟩;refine amC ?_)
 refine ah ?_
 refine aj amQ (fun hc =>?_) (fun hc =>?_)
 ·refine ah ?_
  (simp only [xe,simprocAttr];refine ⟨[_,_],⟨rfl,rfl,trivial⟩,rfl,Imp.eq ?_⟩)
  rfl
 ·have hc:=of_decide_eq_false hc
  exact absurd (hdec.1 (by omega)) hno
set_option maxHeartbeats 2000000 in
theorem Ur {m s:List (List Int)} {g:GmT} (hf:bf m s g) {num den:Int} (hn:0<=num/\num<=1000000) (hd:0<=den/\den<=1000000) {L:List Int} (hL:LcL s g num den L):bJ Tryz.prog 45 [gI g,frA (num,den)] [] [] (.tup [.one (.own 0),.one (.b (.val (.bool true)))]) [.row 3 (.ints L)]:=by
 obtain ⟨W,b,hWl,hW0,hS,hdec⟩:=QM hf hn hd
 have hB:=jX hf hn hd
 have hle:=hf.le
 have hcl:=hf.clen
 have hpl:=bC hf.prob
 have hLl:=hL.len
 have hLb:∀ i,i<g.list.length->0<=L.getD i 0/\L.getD i 0<=60*119000000:=fun i hi=>Eh hB (by omega) hL hi
 refine aU Tryz.func45 rfl Tryz.ntmps45 aP (fun _ _=>by kernel_rfl) rfl rfl rfl ?_
 intro M0 w0 S φ0
 rw [Tryz.results45]
 refine ah ?_
 (refine .inr (.inl (fC (Dk hf hn hd) rfl rfl rfl rfl rfl rfl rfl ?_));refine amC ?_)
 (refine .inr (.inl (fC (hS) rfl rfl rfl rfl rfl rfl rfl ?_));refine amC ?_)
 refine ah ?_
 ((try refine Or.inl ?_);refine ⟨_,(BA W hW0),.inl rfl,?_⟩;refine amC ?_)
 refine ah ?_
 refine aj amQ (fun hc =>?_) (fun hc =>?_)
 ·have hc:=of_decide_eq_true hc
  have:=hdec.2 ⟨_,hL.lc.1⟩
  omega
 refine ah ?_
 refine aA (α:=List Int×Bool) (fun a=>[(9,true,.bool a.2)]) [0,3,8] (fun a=>[.box [.b (.val (.int .i64 num)),.b (.val (.int .i64 den))],.box [.own 2,.own 3],.row 4 (.bo (cfX s g)),.tree [197,199] (.ki 2 (dY s g num den)),.row 3 (.ints W),.row 3 (.ints a.1)]) (fun a=>zy g L a.1/\(a.2=false->∀ i r,i<g.list.length->r<s.length->miN num den ((g.ch.getD i []).getD r []) a.1 ((g.ch.getD i []).getD r []).length<=a.1.getD i 0)) (fun a=>(2*(sAI (fun u=>L.getD u 0) g.list.length-sAI (fun u=>a.1.getD u 0) g.list.length)).toNat+cond a.2 1 0) (List.replicate g.list.length 0,true) (by exact bZ) ⟨⟨by simp,fun v hv=>by simp [hv],fun v hv=>by simp [hv];exact (hLb v hv).1⟩,fun h=>(by cases h)⟩ fun a ha =>?_
 obtain ⟨out,c⟩:=a
 obtain ⟨ho,hst⟩:=ha
 have hl:=ho.len
 simp only at ho hst hl ⊢
 simp only [xr,simprocAttr]
 refine ah ?_
 cases c
 ·refine aj amQ (fun h0 =>?_) (fun h0 =>?_)
  ·cases h0
  ·refine ah ?_
   have:=SC hB (by omega) hL ho (hst rfl)
   subst this
   (simp only [aB,aH];refine nU (vs:=[_,_]) [5] rfl ⟨rfl,trivial⟩ rfl rfl rfl rfl ⟨rfl,rfl,trivial⟩ ?_;try rfl)
 refine aj amQ (fun h0 =>?_) (fun h0=>by cases h0)
 refine ah ?_
 refine aA (α:=Nat×List Int×Bool) (fun a=>[(43,true,.int a.1),(9,true,.bool a.2.2)]) [0,3,8,41,42] (fun a=>[.box [.b (.val (.int .i64 num)),.b (.val (.int .i64 den))],.box [.own 2,.own 3],.row 4 (.bo (cfX s g)),.tree [197,199] (.ki 2 (dY s g num den)),.row 3 (.ints W),.row 3 (.ints a.2.1)]) (fun a=>a.1<=g.list.length/\zy g L a.2.1/\(a.2.2=false->a.2.1=out/\∀ i r,i<a.1->r<s.length->miN num den ((g.ch.getD i []).getD r []) out ((g.ch.getD i []).getD r []).length<=out.getD i 0)/\(a.2.2=true->sAI (fun u=>out.getD u 0) g.list.length<sAI (fun u=>a.2.1.getD u 0) g.list.length)) (fun a=>g.list.length-a.1) (0,out,false) (by exact bZ) ⟨Nat.zero_le _,ho,fun _=>⟨rfl,fun i r hi=>absurd hi (Nat.not_lt_zero i)⟩,fun h=>(by cases h)⟩ fun a ha =>?_
 obtain ⟨i,o2,c⟩:=a
 obtain ⟨hi,ho2,hs2,hs3⟩:=ha
 have hl2:=ho2.len
 simp only at hi ho2 hs2 hs3 hl2 ⊢
 simp only [xr,simprocAttr]
 refine ah ?_
 refine aj amQ (fun h1 =>?_) (fun h1 =>?_)
 ·have h1:=of_decide_eq_true h1
  have hi':i<g.list.length:=by omega
  have hrl:=hf.c.len i (by omega)
  refine ah ?_
  refine aA (α:=Nat×List Int×Bool) (fun a=>[(50,true,.int a.1),(9,true,.bool a.2.2)]) [0,3,8,10,11,41,42,43,48,49] (fun a=>[.box [.b (.val (.int .i64 num)),.b (.val (.int .i64 den))],.box [.own 2,.own 3],.row 4 (.bo (cfX s g)),.tree [197,199] (.ki 2 (dY s g num den)),.row 3 (.ints W),.row 3 (.ints a.2.1)]) (fun a=>a.1<=s.length/\zy g L a.2.1/\(a.2.2=false->a.2.1=out/\(∀ i' r,i'<i->r<s.length->miN num den ((g.ch.getD i' []).getD r []) out ((g.ch.getD i' []).getD r []).length<=out.getD i' 0)/\∀ r,r<a.1->miN num den ((g.ch.getD i []).getD r []) out ((g.ch.getD i []).getD r []).length<=out.getD i 0)/\(a.2.2=true->sAI (fun u=>out.getD u 0) g.list.length<sAI (fun u=>a.2.1.getD u 0) g.list.length)) (fun a=>s.length-a.1) (0,o2,c) (by exact bZ) ⟨Nat.zero_le _,ho2,fun h=>⟨(hs2 h).1,(hs2 h).2,fun r hr=>absurd hr (Nat.not_lt_zero r)⟩,hs3⟩ fun a ha =>?_
  obtain ⟨r,o3,c3⟩:=a
  obtain ⟨hr,ho3,hs4,hs5⟩:=ha
  have hl3:=ho3.len
  simp only at hr ho3 hs4 hs5 hl3 ⊢
  simp only [xr,simprocAttr]
  refine ah ?_
  refine aj amQ (fun h2 =>?_) (fun h2 =>?_)
  ·have h2:=of_decide_eq_true h2
   have hr':r<s.length:=by omega
   have hok:=hf.c.row i r (by omega) hr'
   have hrow4:=kP hf.prob hok
   have hmL:=ac3 hB hL ho3 hi' hr'
   have hLi:=hLb i hi'
   have ho3g:=ho3.ge i hi'
   have ho3l:=ho3.le i hi'
   refine ah ?_
   refine aA (α:=Nat) (fun k=>[(56,true,.int k),(14,true,.int (miN num den ((g.ch.getD i []).getD r []) o3 k))]) [0,3,8,9,10,11,13,41,42,43,48,49,50,54,55] (fun k=>[.box [.b (.val (.int .i64 num)),.b (.val (.int .i64 den))],.box [.own 2,.own 3],.row 4 (.bo (cfX s g)),.tree [197,199] (.ki 2 (dY s g num den)),.row 3 (.ints W),.row 3 (.ints o3)]) (fun k=>k<=((g.ch.getD i []).getD r []).length) (fun k=>((g.ch.getD i []).getD r []).length-k) 0 (by exact bZ) (Nat.zero_le _) fun k hk =>?_
   have hmk:=(IU num den ((g.ch.getD i []).getD r []) o3 k)
   simp only [xr,simprocAttr]
   refine ah ?_
   refine aj amQ (fun h3 =>?_) (fun h3 =>?_)
   ·have h3:=of_decide_eq_true h3
    have hk':k<((g.ch.getD i []).getD r []).length:=by omega
    obtain ⟨t1,t2⟩:=hB.to_ hi' hr' hk'
    obtain ⟨b1,b2⟩:=hB.bd i r k hi' hr' hk'
    have u1:0<=o3.getD ((((g.ch.getD i []).getD r []).getD k []).getD 1 0).toNat 0:=ho3.ge _ t1
    have u2:o3.getD ((((g.ch.getD i []).getD r []).getD k []).getD 1 0).toNat 0<=L.getD ((((g.ch.getD i []).getD r []).getD k []).getD 1 0).toNat 0:=ho3.le _ t1
    have u3:L.getD ((((g.ch.getD i []).getD r []).getD k []).getD 1 0).toNat 0<=60*119000000:=(hLb _ t1).2
    obtain ⟨_,_,_,_,_,_,_,m1,m2,m3,m4⟩:=Cc (Bc hok hk') (num:=num) (den:=den) (by omega) (by omega) (by omega) (by omega)
    have hmk2 : -119000000<=miN num den ((g.ch.getD i []).getD r []) o3 k:=by
     rcases hmk.2.2 with e | ⟨j,hj,e⟩
     ·omega
     ·have hj':j<((g.ch.getD i []).getD r []).length:=by omega
      have:=(hB.bd i r j hi' hr' hj').1
      have:=ho3.ge _ (hB.to_ hi' hr' hj').1
      omega
    refine ah ?_
    ((try refine Or.inl ?_);refine ⟨_,(U6 (((g.ch.getD i []).getD r []).getD k []) (num,den) m1 (by simp only;omega) m3 (by simp only;omega)),.inl rfl,?_⟩;refine amC ?_)
    refine ah ?_
    refine ⟨k+1,by omega,by omega,.inr ⟨6,Nat.le_of_ble_eq_true rfl,aS ?_ rfl rfl rfl⟩⟩
    exact bZ
   ·have h3:=of_decide_eq_false h3
    have hk':k=((g.ch.getD i []).getD r []).length:=by omega
    subst hk'
    refine ah ?_
    refine aj amQ (fun h4 =>?_) (fun h4 =>?_)
    ·have h4:=of_decide_eq_true h4
     obtain ⟨o4,o5⟩:=Wp ho3 hi' h4 hmL
     have hsum:sAI (fun u=>out.getD u 0) g.list.length<sAI (fun u=>(o3.set i (miN num den ((g.ch.getD i []).getD r []) o3 ((g.ch.getD i []).getD r []).length)).getD u 0) g.list.length:=by
      cases c3
      ·rw [(hs4 rfl).1] at o5
       rw [(hs4 rfl).1]
       exact o5
      ·exact Int.lt_trans (hs5 rfl) o5
     refine ah ?_
     refine ⟨(r+1,o3.set i (miN num den ((g.ch.getD i []).getD r []) o3 ((g.ch.getD i []).getD r []).length),true),hr',o4,fun h=>(by cases h),fun _=>hsum,by show s.length-(r+1)<s.length-r;omega,.inl ?_⟩
     exact bZ
    ·have h4:=of_decide_eq_false h4
     have h4:¬ o3.getD i 0<miN num den ((g.ch.getD i []).getD r []) o3 ((g.ch.getD i []).getD r []).length:=h4
     refine ah ?_
     refine ⟨(r+1,o3,c3),hr',ho3,fun h=>⟨(hs4 h).1,(hs4 h).2.1,fun r2 hr2 =>?_⟩,hs5,by show s.length-(r+1)<s.length-r;omega,.inl ?_⟩
     ·have hr2:r2<r+1:=hr2
      by_cases e:r2=r
      ·subst e
       rw [(hs4 h).1] at h4
       omega
      ·exact (hs4 h).2.2 r2 (by omega)
     ·exact bZ
  ·have h2:=of_decide_eq_false h2
   have hr':r=s.length:=by omega
   subst hr'
   refine ah ?_
   refine ⟨(i+1,o3,c3),hi',ho3,fun h=>⟨(hs4 h).1,fun i2 r2 hi2 hr2 =>?_⟩,hs5,by show g.list.length-(i+1)<g.list.length-i;omega,.inl ?_⟩
   ·have hi2:i2<i+1:=hi2
    by_cases e:i2=i
    ·subst e
     exact (hs4 h).2.2 r2 hr2
    ·exact (hs4 h).2.1 i2 r2 (by omega) hr2
   ·exact bZ
 ·have h1:=of_decide_eq_false h1
  have hi':i=g.list.length:=by omega
  have q1:=yN ho2
  have q2:=yN ho
  refine ah ?_
  refine ⟨(o2,c),ho2,fun h i2 r2 hi2 hr2 =>?_,?_,.inl ?_⟩
  ·have e:=(hs2 h).1
   subst e
   exact (hs2 h).2 i2 r2 (by omega) hr2
  ·cases c
   ·rw [(hs2 rfl).1]
    simp only [cond_false,cond_true]
    omega
   ·have:=hs3 rfl
    simp only [cond_true]
    omega
  ·exact bZ
def CrE (m s:List (List Int)) (x:Int) (a:Int×Int):Prop:=∃ C,CrP (gmQ m s x).1.list.length (rqR s) (gmE (gmQ m s x).1 a.1 a.2) C
open Classical in
noncomputable def crE (m s:List (List Int)) (x:Int) (a:Int×Int):Bool:=decide (CrE m s x a)
noncomputable def fcB (m s:List (List Int)) (x:Int) (a:Int×Int):Bool:=(okB m s x a && !(decide (1000<a.1) || decide (100<a.2))) && crE m s x a
open Classical in
noncomputable def fcW (m s:List (List Int)) (x:Int) (a:Int×Int):List Int:=if h:∃ L,LcL s (gmQ m s x).1 a.1 a.2 L then Classical.choose h else []
theorem BX {m s:List (List Int)} {x:Int} {a:Int×Int}:crE m s x a=true↔CrE m s x a:=by unfold crE;exact @decide_eq_true_iff _ (Classical.propDecidable _)
structure TB (m s:List (List Int)) (x:Int) (a:Int×Int):Prop where
 q:(gmQ m s x).2=false
 r:iD a=true
 full:bf m s (gmQ m s x).1
 n:0<=a.1/\a.1<=1000
 d:1<=a.2/\a.2<=100
theorem PV {m s:List (List Int)} {x:Int} {a:Int×Int} (h1:(gmQ m s x).2=false) (h2:iD a=true) (h3:¬ 1000<a.1) (h4:¬ 100<a.2):TB m s x a:=by
 have h5:=ER h2
 exact ⟨h1,h2,dS h1,by omega,by omega⟩
theorem TB.eq {m s:List (List Int)} {x:Int} {a:Int×Int} (h:TB m s x a):fcB m s x a=crE m s x a:=by
 have h1:=h.n
 have h2:=h.d
 unfold fcB okB
 rw [h.q,h.r,decide_eq_false (show ¬ 1000<a.1 by omega),decide_eq_false (show ¬ 100<a.2 by omega)]
 rfl
theorem zL {m s:List (List Int)} {x:Int} {a:Int×Int} (h:fcB m s x a=true):TB m s x a/\CrE m s x a:=by
 unfold fcB at h
 rw [Bool.and_eq_true,Bool.and_eq_true,Bool.not_eq_true',Bool.or_eq_false_iff] at h
 obtain ⟨⟨h1,h2,h3⟩,h4⟩:=h
 obtain ⟨h5,h6⟩:=V7 h1
 exact ⟨PV h5 h6 (of_decide_eq_false h2) (of_decide_eq_false h3),BX.1 h4⟩
theorem Gm {m s:List (List Int)} {x:Int} {a:Int×Int} (h:fcB m s x a=true):LcL s (gmQ m s x).1 a.1 a.2 (fcW m s x a):=by
 obtain ⟨h1,h2⟩:=zL h
 have hn:=h1.n
 have hd:=h1.d
 have hex:=ZH (jX h1.full (num:=a.1) (den:=a.2) (by omega) (by omega)) h2
 unfold fcW
 rw [dif_pos hex]
 exact Classical.choose_spec hex
theorem X0 {m s:List (List Int)} {x:Int} {a:Int×Int} (h:fcB m s x a=true):(fcW m s x a).length<=60:=by
 rw [(Gm h).len]
 exact (zL h).1.full.le
theorem yt (m s:List (List Int)) (x:Int) (a:Int×Int) (hb:fcB m s x a=true):bJ Tryz.prog 12 [prA m s,.int x,frA a] [] [] (.tup [.one (.own 0),.one (.b (.val (.bool true)))]) [.row 3 (.ints (fcW m s x a))]:=by
 obtain ⟨hk,hc⟩:=zL hb
 have hn:=hk.n
 have hd:=hk.d
 have hR:=ql a
 rw [hk.r] at hR
 have e1:decide (1000<a.1)=false:=decide_eq_false (by omega)
 have e2:decide (100<a.2)=false:=decide_eq_false (by omega)
 refine aU Tryz.func12 rfl Tryz.ntmps12 aP (fun _ _=>by kernel_rfl) rfl rfl rfl ?_
 intro M0 w0 S φ0
 rw [Tryz.results12]
 refine ah ?_
 (refine .inr (.inl (aJ [] (kW hk.q) rfl rfl rfl rfl trivial rfl rfl rfl rfl ?_));refine amC ?_)
 refine ah ?_
 ((try refine Or.inl ?_);refine ⟨_,(hR),.inl rfl,?_⟩;refine amC ?_)
 refine ah ?_
 refine aj amQ (fun hq =>?_) (fun hq =>?_)
 ·rw [e1,e2] at hq
  cases hq
 refine ah ?_
 (refine .inr (.inl (fC (Ur hk.full (num:=a.1) (den:=a.2) (by omega) (by omega) (Gm hb)) rfl rfl rfl rfl rfl rfl rfl ?_));refine amC ?_)
 refine ah ?_
 (simp only [aB,aH];refine nU (vs:=[_,_]) [5] rfl ⟨rfl,trivial⟩ rfl rfl rfl rfl ⟨rfl,rfl,trivial⟩ ?_;try rfl)
theorem oH (m s:List (List Int)) (x:Int) (a:Int×Int) (hb:fcB m s x a=true):Does Tryz.prog 12 [prA m s,.int x,frA a] (.imm (.tup [.one (.b (.sl (.ints (fcW m s x a)))),.one (.b (.val (.bool true)))])):=pq (yt m s x a hb)
theorem oG (m s:List (List Int)) (x:Int) (a:Int×Int) (hb:fcB m s x a=false):Does Tryz.prog 12 [prA m s,.int x,frA a] (.imm (.tup [.one (.b (.val (.slice none 0 0))),.one (.b (.val (.bool false)))])):=by
 refine aF Tryz.func12 rfl Tryz.ntmps12 aP (fun _ _=>by kernel_rfl) rfl (Nat.le_of_ble_eq_true rfl) ?_
 intro M0 w0
 rw [Tryz.results12]
 refine ah ?_
 cases hg:(gmQ m s x).2
 ·(refine .inr (.inl (aJ [] (kW hg) rfl rfl rfl rfl trivial rfl rfl rfl rfl ?_));refine amC ?_)
  refine ah ?_
  have hR:=ql a
  cases hr:iD a
  ·rw [hr] at hR
   ((try refine Or.inl ?_);refine ⟨_,(hR),.inl rfl,?_⟩;refine amC ?_)
   refine ah ?_
   refine aj amQ (fun hq =>?_) (fun hq =>?_)
   ·refine ah ?_
    (simp only [xe,simprocAttr];refine ⟨[_,_],⟨rfl,rfl,trivial⟩,rfl,Imp.eq ?_⟩)
    rfl
   ·cases hq
  ·rw [hr] at hR
   ((try refine Or.inl ?_);refine ⟨_,(hR),.inl rfl,?_⟩;refine amC ?_)
   refine ah ?_
   refine aj amQ (fun hq =>?_) (fun hq =>?_)
   ·refine ah ?_
    (simp only [xe,simprocAttr];refine ⟨[_,_],⟨rfl,rfl,trivial⟩,rfl,Imp.eq ?_⟩)
    rfl
   ·have h1:¬ 1000<a.1:=fun h=>by
     rw [decide_eq_true h] at hq
     cases hq
    have h2:¬ 100<a.2:=fun h=>by
     rw [decide_eq_true h,decide_eq_false h1] at hq
     cases hq
    have hk:=PV hg hr h1 h2
    have hn:=hk.n
    have hd:=hk.d
    rw [hk.eq] at hb
    have hno:¬ CrE m s x a:=fun h=>by rw [BX.2 h] at hb;cases hb
    refine ah ?_
    ((try refine Or.inl ?_);refine ⟨_,(Uo hk.full (num:=a.1) (den:=a.2) (by omega) (by omega) hno),.inl rfl,?_⟩;refine amC ?_)
    refine ah ?_
    (simp only [xe,simprocAttr];refine ⟨[_,_],⟨rfl,rfl,trivial⟩,rfl,Imp.eq ?_⟩)
    rfl
 ·(refine .inr (.inl (fC (sU hg) rfl rfl rfl rfl rfl rfl rfl ?_));refine amC ?_)
  refine ah ?_
  refine .inl ⟨.bool false,.inl rfl,?_⟩
  simp only [xr,simprocAttr]
  refine amS ?_
  refine ah ?_
  refine aj amQ (fun hc =>?_) (fun hc =>?_)
  ·refine ah ?_
   (simp only [xe,simprocAttr];refine ⟨[_,_],⟨rfl,rfl,trivial⟩,rfl,Imp.eq ?_⟩)
   rfl
  ·cases hc
end Go.Proofs.YtkcelmnbfbehbaaGreat
