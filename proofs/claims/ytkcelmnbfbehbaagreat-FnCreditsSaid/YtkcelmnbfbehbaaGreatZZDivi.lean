/- Common divisors, and searches for cycles with a gain. Conditions: those that each names. -/
import Derived.Test.YtkcelmnbfbehbaaGreatGED
import Derived.Test.YtkcelmnbfbehbaaGreatZStratP
import Derived.Test.YtkcelmnbfbehbaaGreatGRU
set_option linter.all false
namespace Go.Proofs.YtkcelmnbfbehbaaGreat
open Go Go.RowKit Am
theorem Om {E:List (List Int)} {n:Nat} {wt:List Int->Int} (hE:vZ E n):∃ r,aeL E wt n (rxR wt E) r/\((r=(0,0,false)/\∃ L,rU E wt L)\/∃ v es,Wk E v es v/\es.length<=n/\0<aQ wt es/\r=(aQ iq es,aQ fG es,true)):=by
 rcases XZ (rxR wt E) n with ⟨t,ht⟩ | hn
 ·exact ⟨_,.inl ⟨t,ht,rfl⟩,.inl ⟨rfl,_,ht.pot fun s t=>BI.gs hE⟩⟩
 ·obtain ⟨v,h1,h2,h3,p,hp⟩:=hn.cyc hE fun s t=>BI.gs hE
  exact ⟨_,.inr ⟨hn,v,p,h1,h2,h3,hp,rfl⟩,.inr ⟨_,_,hp.wk,hp.len,hp.gain,rfl⟩⟩
theorem RH (c:List Int) (x:Int):Does Tryz.prog 115 [six c,.lf (.ip [.val (.int .i64 x)] 0)] (.imm (.bool (decide (c.getD 5 0=x)))):=by
 refine aF Tryz.func115 rfl Tryz.ntmps115 aP (fun _ _=>by kernel_rfl) rfl (Nat.le_of_ble_eq_true rfl) ?_
 intro M0 w0
 rw [Tryz.results115]
 refine ah ?_
 refine bI ?_
 rfl
theorem Uf {m s:List (List Int)} {g:GmT} {q:List (List Int)} (hg:bf m s g) (hq:dU m s g q=true) {a r:Nat} (ha:a<g.list.length) (hr:r<s.length) :
  Does Tryz.prog 53 [.lf (.ip [.sl (.k 2 g.list),.sl (.kii 6 g.ch)] 0),.int a,.int r,.int ((q.getD a []).getD r 0)] (.imm (six (gW g q a r))):=by
 obtain ⟨k,hs⟩:=Az hg hq ha hr
 have hac:a<g.ch.length:=by rw [hg.clen];exact ha
 have hrl:=hg.c.len a hac
 have h1:=hs.at_
 have h2:=hs.lt
 have h3:=hs.eq
 have h4:mZ g a r=(g.ch.getD a []).getD r []:=rfl
 have hix:idxOf (fun c=>decide (c.getD 5 0=(q.getD a []).getD r 0)) (mZ g a r)=k:=hs.at_
 refine aF Tryz.func53 rfl Tryz.ntmps53 aP (fun _ _=>by kernel_rfl) rfl (Nat.le_of_ble_eq_true rfl) ?_
 intro M0 w0
 rw [Tryz.results53]
 refine ah ?_
 rw [← h4]
 ((try refine Or.inl ?_);refine ⟨_,(qQ (mZ g a r) _ [.ip [.val (.int .i64 ((q.getD a []).getD r 0))] 0] (fun c=>decide (c.getD 5 0=(q.getD a []).getD r 0)) rfl fun j hj=>RH _ _),.inl rfl,?_⟩;refine amC ?_)
 rw [hix,Int.toNat_natCast]
 refine amS ?_
 refine ah ?_
 (simp only [xec,simprocAttr];refine ⟨_,⟨amK,rfl⟩,rfl,Imp.eq ?_⟩)
 rw [h3]
 rfl
def srB (m s:List (List Int)) (x:Int) (q:List (List Int)) (rs:List Int):Bool := !(gmQ m s x).2 && dU m s (gmQ m s x).1 q && seqB s.length rs
def vK (m s:List (List Int)) (x:Int) (q:List (List Int)) (rs:List Int):List Int:=qZ (gmQ m s x).1 q 0 rs
def rQ (m s:List (List Int)) (x:Int) (q:List (List Int)) (rs:List Int):Int:=oq (gmQ m s x).1 q 0 rs
theorem OI {m s:List (List Int)} {x:Int} {q:List (List Int)} {rs:List Int} (h:srB m s x q rs=true):(gmQ m s x).2=false/\dU m s (gmQ m s x).1 q=true/\seqB s.length rs=true:=by
 unfold srB at h
 simp only [Bool.and_eq_true,Bool.not_eq_true'] at h
 exact ⟨h.1.1,h.1.2,h.2⟩
theorem Vo {m s:List (List Int)} {g:GmT} {b:Bool} {q:List (List Int)} {rs:List Int} (hg:bf m s g) (hq:dU m s g q=true) (hr:jJ s.length rs) (hl:rs.length<=60) :
  Does Tryz.prog 56 [.tv (.agg [.b (.sl (.k 2 g.list)),.b (.sl (.kii 4 (ch4 g.ch))),.b (.val (.bool b))]),.sl (.ii q),.sl (.ints rs)] (.imm (.tup [.one (.b (.sl (.ints (qZ g q 0 rs)))),.one (.b (.val (.int .i64 (oq g q 0 rs))))])):=by
 have hqb:=hq
 unfold dU at hqb
 simp only [Bool.and_eq_true,beq_iff_eq] at hqb
 have hql:=hqb.1
 have hcl:=hg.clen
 have hl4:(ch4 g.ch).length=g.ch.length:=by simp [ch4]
 refine aF Tryz.func56 rfl Tryz.ntmps56 aP (fun _ _=>by kernel_rfl) rfl (Nat.le_of_ble_eq_true rfl) ?_
 intro M0 w0
 rw [Tryz.results56]
 refine ah ?_
 refine aA (α:=Nat) (fun k=>[(11,true,.int k),(9,true,.int (oq g q 0 (rs.take k))),(10,true,.int (rAt g q 0 (rs.take k)))]) [1,2,3,8] (fun k=>[.box [.b (.sl (.k 2 g.list)),.b (.sl (.kii 4 (ch4 g.ch))),.b (.val (.bool b))],.row 3 (.ints (qZ g q 0 (rs.take k)))]) (fun k=>k<=rs.length) (fun k=>rs.length-k) 0 (by exact bY) (Nat.zero_le _) fun k hk =>?_
 have hol:=yT (g:=g) (q:=q) 0 (rs.take k)
 rw [List.length_take] at hol
 have hat:=Oo hg hq (rs.take k) 0 hg.pos (hr.take k)
 simp only [xr,simprocAttr]
 refine ah ?_
 refine aj amQ (fun hc =>?_) (fun hc =>?_)
 ·have hc:=of_decide_eq_true hc
  have hk':k<rs.length:=by omega
  obtain ⟨r,hr1,hr2⟩:=hr.at hk'
  obtain ⟨kk,hs⟩:=Az hg hq hat hr2
  have hst:=yY hg hq hat hr2
  have hac:rAt g q 0 (rs.take k)<g.ch.length:=by omega
  have hrl:=hg.c.len _ hac
  have h4l:((ch4 g.ch).getD (rAt g q 0 (rs.take k)) []).length=s.length:=by rw [jV hac,List.length_map,hrl]
  have h42:=lV hac (r:=r) (by omega)
  have hqr:=hs.rl
  have hsb:=CQ hg hq (rs.take k) 0 hg.pos (hr.take k)
  rw [List.length_take] at hsb
  have htk:=Aj (g:=g) (q:=q) (a:=0) hk'
  have hta:=EO (g:=g) (q:=q) (a:=0) hk'
  have hto:=Hf (g:=g) (q:=q) (a:=0) hk'
  rw [hr1,Int.toNat_natCast] at htk hto
  rw [hr1] at hta
  refine ah ?_
  rw [hr1]
  simp only [xr,simprocAttr]
  rw [h42]
  have hml:(((g.ch.getD (rAt g q 0 (rs.take k)) []).getD r []).map c4).length=(mZ g (rAt g q 0 (rs.take k)) r).length:=by simp [mZ]
  have hsa:BJ ((g.ch.getD (rAt g q 0 (rs.take k)) []).getD r []) ((q.getD (rAt g q 0 (rs.take k)) []).getD r 0)=kk:=hs.at_
  have hslt:kk<((g.ch.getD (rAt g q 0 (rs.take k)) []).getD r []).length:=hs.lt
  have hse:(((g.ch.getD (rAt g q 0 (rs.take k)) []).getD r []).map c4).getD kk []=c4 (gW g q (rAt g q 0 (rs.take k)) r):=by
   rw [iC (show kk<((g.ch.getD (rAt g q 0 (rs.take k)) []).getD r []).length from hs.lt) [] [],hs.eq]
   rfl
  (refine amB ?_;refine iE [] 0 [] (by kernel_rfl) (by kernel_rfl) (by kernel_rfl) (by kernel_rfl) (by kernel_rfl) ?_;refine amM ?_)
  rw [hr1,Int.toNat_natCast]
  ((try refine Or.inl ?_);refine ⟨_,(Bh _ _),.inl rfl,?_⟩;refine amC ?_)
  rw [hsa,Int.toNat_natCast,hse]
  simp only [c4]
  refine ah ?_
  have hst1:=hst.1
  refine ⟨k+1,by omega,by omega,.inr ⟨2,Nat.le_of_ble_eq_true rfl,aS ?_ rfl rfl rfl⟩⟩
  exact bV (by rw [hto];rfl)
 ·have hc:=of_decide_eq_false hc
  have hk':k=rs.length:=by omega
  subst hk'
  rw [List.take_length]
  refine jd ?_
  (refine aN 1 rfl ?_;simp only [xz,simprocAttr])
  refine ah ?_
  (simp only [xe,simprocAttr];refine ⟨[_,_],⟨rfl,rfl,trivial⟩,rfl,Imp.eq ?_⟩)
  rfl
theorem Xj {m s:List (List Int)} {x:Int} {q:List (List Int)} {rs:List Int} (h:srB m s x q rs=false) (h1:(gmQ m s x).2=false):(bif !dU m s (gmQ m s x).1 q then true else !seqB s.length rs)=true:=by
 unfold srB at h
 rw [h1] at h
 revert h
 cases dU m s (gmQ m s x).1 q<;>cases seqB s.length rs<;>decide
theorem OO {m s:List (List Int)} {x:Int} {rs:List Int} (h:bH m s x []=true):bH m s x rs=seqB s.length rs:=by
 unfold bH at h ⊢
 simp only [Bool.and_eq_true] at h
 rw [h.1.1,h.1.2]
 rfl
theorem wZ (m s:List (List Int)) (x:Int) (q:List (List Int)) (rs:List Int):Does Tryz.prog 18 [prA m s,.int x,.sl (.ii q),.sl (.ints rs)] (.imm (.tup [.one (.b (.sl (.ints (if srB m s x q rs=true then vK m s x q rs else [])))),.one (.b (.val (.int .i64 (if srB m s x q rs=true then rQ m s x q rs else 0)))),bT (srB m s x q rs)])):=by
 refine aF Tryz.func18 rfl Tryz.ntmps18 aP (fun _ _=>by kernel_rfl) rfl (Nat.le_of_ble_eq_true rfl) ?_
 intro M0 w0
 rw [Tryz.results18]
 refine ah ?_
 cases hb:(gmQ m s x).2
 ·have hf:=dS hb
  have ht:=iJ hb
  ((try refine Or.inl ?_);refine ⟨_,(gG ht),amF,?_⟩;refine amC ?_)
  rw [hb]
  refine ah ?_
  ((try refine Or.inl ?_);refine ⟨_,(FW m s _ _ q hf),.inl rfl,?_⟩;refine amC ?_)
  refine ah ?_
  ((try refine Or.inl ?_);refine ⟨_,(fun _=>GL m s x rs),.inl rfl,?_⟩;refine amC ?_)
  rw [OO ht]
  refine ah ?_
  cases hr:srB m s x q rs
  ·have hn:=Xj hr hb
   refine aj amQ (fun hc =>?_) (fun hc =>?_)
   ·refine jd ?_
    (refine aN 2 rfl ?_;simp only [xz,simprocAttr])
    refine ah ?_
    (simp only [xe,simprocAttr];refine ⟨[_,_,_],⟨rfl,rfl,rfl,trivial⟩,rfl,Imp.eq ?_⟩)
    rfl
   ·have hx:=hn.symm.trans hc
    cases hx
  ·obtain ⟨h1,h2,h3⟩:=OI hr
   have hsq:=Fe h3
   rw [h2,h3]
   refine aj amQ (fun hc =>?_) (fun hc =>?_)
   ·cases hc
   refine ah ?_
   ((try refine Or.inl ?_);refine ⟨_,(Vo hf h2 hsq.1 hsq.2),amF,?_⟩;refine amC ?_)
   refine ah ?_
   (simp only [xe,simprocAttr];refine ⟨[_,_,_],⟨rfl,rfl,rfl,trivial⟩,rfl,Imp.eq ?_⟩)
   rfl
 ·have hr:srB m s x q rs=false:=by unfold srB;rw [hb];rfl
  rw [hr]
  cases ht:bH m s x []
  ·((try refine Or.inl ?_);refine ⟨_,(nK ht),amF,?_⟩;refine amC ?_)
   refine ah ?_
   refine .inl ⟨.bool false,.inl rfl,?_⟩
   simp only [xr,simprocAttr]
   refine amS ?_
   refine ah ?_
   refine .inl ⟨.bool false,.inl rfl,?_⟩
   simp only [xr,simprocAttr]
   refine amS ?_
   refine ah ?_
   refine aj amQ (fun hc =>?_) (fun hc =>?_)
   ·refine jd ?_
    (refine aN 2 rfl ?_;simp only [xz,simprocAttr])
    refine ah ?_
    (simp only [xe,simprocAttr];refine ⟨[_,_,_],⟨rfl,rfl,rfl,trivial⟩,rfl,Imp.eq ?_⟩)
    rfl
   ·cases hc
  ·((try refine Or.inl ?_);refine ⟨_,(gG ht),amF,?_⟩;refine amC ?_)
   rw [hb]
   refine ah ?_
   refine .inl ⟨.bool false,.inl rfl,?_⟩
   simp only [xr,simprocAttr]
   refine amS ?_
   refine ah ?_
   refine .inl ⟨.bool false,.inl rfl,?_⟩
   simp only [xr,simprocAttr]
   refine amS ?_
   refine ah ?_
   refine aj amQ (fun hc =>?_) (fun hc =>?_)
   ·refine jd ?_
    (refine aN 2 rfl ?_;simp only [xz,simprocAttr])
    refine ah ?_
    (simp only [xe,simprocAttr];refine ⟨[_,_,_],⟨rfl,rfl,rfl,trivial⟩,rfl,Imp.eq ?_⟩)
    rfl
   ·cases hc
set_option maxHeartbeats 2000000 in
theorem wI (m s:List (List Int)) (x:Int) (q:List (List Int)) (rs:List Int) (hb:srB m s x q rs=true):bJ Tryz.prog 17 [prA m s,.int x,.sl (.ii q),.sl (.ints rs)] [] [] (.tup [.one (.own 0),.one (.b (.val (.int .i64 (rQ m s x q rs)))),bT true]) [.row 3 (.ints (vK m s x q rs))]:=by
 obtain ⟨h1,h2,h3⟩:=OI hb
 have hg:=dS h1
 have hsq:=Fe h3
 have hr:=hsq.1
 have hl:=hsq.2
 refine aU Tryz.func17 rfl Tryz.ntmps17 aP (fun _ _=>by kernel_rfl) rfl rfl rfl ?_
 intro M0 w0 S φ0
 rw [Tryz.results17]
 refine ah ?_
 (refine .inr (.inl (aJ [] (kW h1) rfl rfl rfl rfl trivial rfl rfl rfl rfl ?_));refine amC ?_)
 rw [show vK m s x q rs=qZ (gmQ m s x).1 q 0 rs from rfl,show rQ m s x q rs=oq (gmQ m s x).1 q 0 rs from rfl]
 generalize (gmQ m s x).1=g at hg h2
 have hqb:=h2
 unfold dU at hqb
 simp only [Bool.and_eq_true,beq_iff_eq] at hqb
 have hql:=hqb.1
 have hcl:=hg.clen
 refine ah ?_
 ((try refine Or.inl ?_);refine ⟨_,(qU m s g q (iZ hg.prob)),.inl rfl,?_⟩;refine amC ?_)
 rw [h2]
 refine ah ?_
 ((try refine Or.inl ?_);refine ⟨_,(fun _=>qR m s rs),.inl rfl,?_⟩;refine amC ?_)
 rw [h3]
 refine ah ?_
 refine aj amQ (fun hc =>?_) (fun hc =>?_)
 ·cases hc
 refine ah ?_
 refine aA (α:=Nat) (fun k=>[(43,true,.int k),(14,true,.int (oq g q 0 (rs.take k))),(15,true,.int (rAt g q 0 (rs.take k)))]) [2,11,13,41,42] (fun k=>[.box [.b (.sl (.ii m)),.b (.sl (.ii s))],.box [.own 2,.own 3],.row 145 (.k 2 g.list),.row 82 (.kii 6 g.ch),.row 3 (.ints (qZ g q 0 (rs.take k)))]) (fun k=>k<=rs.length) (fun k=>rs.length-k) 0 (by exact bY) (Nat.zero_le _) fun k hk =>?_
 have hol:=yT (g:=g) (q:=q) 0 (rs.take k)
 rw [List.length_take] at hol
 have hat:=Oo hg h2 (rs.take k) 0 hg.pos (hr.take k)
 simp only [xr,simprocAttr]
 refine ah ?_
 refine aj amQ (fun hd =>?_) (fun hd =>?_)
 ·have hd:=of_decide_eq_true hd
  have hk':k<rs.length:=by omega
  obtain ⟨r,hr1,hr2⟩:=hr.at hk'
  obtain ⟨kk,hs⟩:=Az hg h2 hat hr2
  have hst:=yY hg h2 hat hr2
  have hst1:=hst.1
  have hrl:=hg.c.len _ (show rAt g q 0 (rs.take k)<g.ch.length by omega)
  have hqr:=hs.rl
  have hsb:=CQ hg h2 (rs.take k) 0 hg.pos (hr.take k)
  rw [List.length_take] at hsb
  have htk:=Aj (g:=g) (q:=q) (a:=0) hk'
  have hta:=EO (g:=g) (q:=q) (a:=0) hk'
  have hto:=Hf (g:=g) (q:=q) (a:=0) hk'
  rw [hr1,Int.toNat_natCast] at htk hto
  rw [hr1] at hta
  refine ah ?_
  rw [hr1,Int.toNat_natCast]
  ((try refine Or.inl ?_);refine ⟨_,(Uf hg h2 hat hr2),.inl rfl,?_⟩;refine amC ?_)
  refine ah ?_
  (refine amB ?_;refine iE [4] 4 [] (by kernel_rfl) (by kernel_rfl) (by kernel_rfl) (by kernel_rfl) (by kernel_rfl) ?_;refine amM ?_)
  refine amB ?_
  (refine lF 4 6 rfl rfl (by decide) rfl rfl ?_;simp only [xm,simprocAttr])
  refine ah ?_
  refine ⟨k+1,by omega,by omega,.inr ⟨5,Nat.le_of_ble_eq_true rfl,aS ?_ rfl rfl rfl⟩⟩
  exact bV (by rw [hto];rfl)
 ·have hd:=of_decide_eq_false hd
  have hk':k=rs.length:=by omega
  subst hk'
  rw [List.take_length]
  refine ah ?_
  (simp only [aB,aH];refine nU (vs:=[_,_,_]) [4] rfl ⟨rfl,trivial⟩ rfl rfl rfl rfl ⟨rfl,rfl,rfl,trivial⟩ ?_;try rfl)
theorem nH (m s:List (List Int)) (x:Int) (q:List (List Int)) (rs:List Int) (hb:srB m s x q rs=false):Does Tryz.prog 17 [prA m s,.int x,.sl (.ii q),.sl (.ints rs)] (.imm (.tup [.one (.b (.val (.slice none 0 0))),.one (.b (.val (.int .i64 0))),bT false])):=by
 refine aF Tryz.func17 rfl Tryz.ntmps17 aP (fun _ _=>by kernel_rfl) rfl (Nat.le_of_ble_eq_true rfl) ?_
 intro M0 w0
 rw [Tryz.results17]
 refine ah ?_
 cases h1:(gmQ m s x).2
 ·have hn:=Xj hb h1
  have hg:=dS h1
  (refine .inr (.inl (aJ [] (kW h1) rfl rfl rfl rfl trivial rfl rfl rfl rfl ?_));refine amC ?_)
  refine ah ?_
  ((try refine Or.inl ?_);refine ⟨_,(qU m s (gmQ m s x).1 q (iZ hg.prob)),.inl rfl,?_⟩;refine amC ?_)
  refine ah ?_
  ((try refine Or.inl ?_);refine ⟨_,(fun _=>qR m s rs),.inl rfl,?_⟩;refine amC ?_)
  refine ah ?_
  refine aj amQ (fun hc =>?_) (fun hc =>?_)
  ·refine ah ?_
   (simp only [xe,simprocAttr];refine ⟨[_,_,_],⟨rfl,rfl,rfl,trivial⟩,rfl,Imp.eq ?_⟩)
   rfl
  ·have hx:=hn.symm.trans hc
   cases hx
 ·(refine .inr (.inl (fC (sU h1) rfl rfl rfl rfl rfl rfl rfl ?_));refine amC ?_)
  refine ah ?_
  refine .inl ⟨.bool false,.inl rfl,?_⟩
  simp only [xr,simprocAttr]
  refine amS ?_
  refine ah ?_
  refine .inl ⟨.bool false,.inl rfl,?_⟩
  simp only [xr,simprocAttr]
  refine amS ?_
  refine ah ?_
  refine aj amQ (fun hc =>?_) (fun hc =>?_)
  ·refine ah ?_
   (simp only [xe,simprocAttr];refine ⟨[_,_,_],⟨rfl,rfl,rfl,trivial⟩,rfl,Imp.eq ?_⟩)
   rfl
  ·cases hc
def lcV (m s:List (List Int)) (x:Int) (rs:List Int):Int:=bif bH m s x rs then I7 m s x.toNat rs else 0
abbrev i2V (v:Int) (b:Bool):AV := .tup [.one (.b (.val (.int .i64 v))),.one (.b (.val (.bool b)))]
theorem ZR {m s:List (List Int)} (hp:bg m s=true) {x:Nat} (hx:x<m.length) {rs:List Int} (hq:jJ s.length rs) (hl:rs.length<=60):0<=I7 m s x rs/\I7 m s x rs<=10000:=by
 have h:=mQ (zu hp hx hq (by omega) rs.length (Nat.le_refl _)) (m.length-1) (by omega)
 rw [List.take_length] at h
 unfold I7
 omega
theorem zT (m s:List (List Int)) (x:Int) (rs:List Int):Does Tryz.prog 20 [prA m s,.int x,.sl (.ints rs)] (.imm (i2V (lcV m s x rs) (bH m s x rs))):=by
 cases ht:bH m s x rs
 ·unfold lcV
  rw [ht]
  refine aF Tryz.func20 rfl Tryz.ntmps20 aP (fun _ _=>by kernel_rfl) rfl (Nat.le_of_ble_eq_true rfl) ?_
  intro M0 w0
  rw [Tryz.results20]
  refine ah ?_
  ((try refine Or.inl ?_);refine ⟨_,(oI m s x rs),.inl rfl,?_⟩;refine amC ?_)
  rw [ht]
  refine ah ?_
  refine aj amQ (fun hc =>?_) (fun hc =>?_)
  ·refine ah ?_
   (simp only [xec,simprocAttr];refine ⟨[_,_],⟨rfl,rfl,trivial⟩,rfl,Imp.eq ?_⟩)
   rfl
  ·simp at hc
 ·obtain ⟨hp,⟨k,rfl,hk⟩,hq,hl⟩:=nZ ht
  unfold lcV
  rw [ht,Int.toNat_natCast]
  exact KX ht hp hk hq hl
end Go.Proofs.YtkcelmnbfbehbaaGreat
