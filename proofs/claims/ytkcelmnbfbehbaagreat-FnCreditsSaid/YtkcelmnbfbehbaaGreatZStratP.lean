/- Strategies on the machine. Conditions: games that are whole. -/
import Derived.Test.YtkcelmnbfbehbaaGreatGCR
set_option linter.all false
namespace Go.Proofs.YtkcelmnbfbehbaaGreat
open Go Go.RowKit Am
theorem Bh (row:List (List Int)) (x:Int):Does Tryz.prog 116 [.sl (.k 4 (row.map c4)),.int x] (.imm (.int (BJ row x))):=by
 refine aF Tryz.func116 rfl Tryz.ntmps116 aP (fun _ _=>by kernel_rfl) rfl (Nat.le_of_ble_eq_true rfl) ?_
 intro M0 w0
 rw [Tryz.results116]
 (refine dB 0 rfl fun hf =>?_;simp only [xp,simprocAttr] at hf;simp only [xf,simprocAttr] at hf)
 refine ah ?_
 refine aA (α:=Nat) (fun k=>[(5,true,.int k)]) [0,1] (fun _=>[]) (fun k=>k<=row.length/\∀ c∈row.take k,decide (c.getD 5 0=x)=false) (fun k=>row.length-k) 0 (by exact bY) ⟨Nat.zero_le _,by simp⟩ fun k hk =>?_
 obtain ⟨hk,hp⟩:=hk
 have hml:(row.map c4).length=row.length:=by simp
 simp only [xr,simprocAttr]
 refine ah ?_
 refine aj amQ (fun hc =>?_) (fun hc =>?_)
 ·have hc:=of_decide_eq_true hc
  have hk':k<row.length:=by omega
  have hat:(row.map c4).getD k []=c4 row[k]:=by rw [iC hk' [] [],getD_in hk']
  refine ah ?_
  rw [hat]
  refine aj amQ (fun hd =>?_) (fun hd =>?_)
  ·have hd:decide (row[k].getD 5 0=x)=true:=hd
   have e:BJ row x=k:=gK hk' hd hp
   refine ah ?_
   refine bI ?_
   rw [e]
  ·have hd:decide (row[k].getD 5 0=x)=false:=hd
   refine ah ?_
   refine ⟨k+1,by omega,fun c hc =>?_,by omega,.inl ?_⟩
   ·rw [List.take_succ_eq_append_getElem hk',List.mem_append,List.mem_singleton] at hc
    rcases hc with hc | rfl
    ·exact hp c hc
    ·exact hd
   ·exact bY
 ·have hc:=of_decide_eq_false hc
  have hk':k=row.length:=by omega
  subst hk'
  rw [List.take_length] at hp
  have e:BJ row x = -1:=gJ hp
  refine ah ?_
  refine bI ?_
  rw [e]
theorem L9 {m s:List (List Int)} {g:GmT} {q:List (List Int)} {i:Nat} (hi:i<q.length) (h:nV m.length s (q.getD i [])=false):dU m s g q=false:=by
 unfold dU
 rw [TK hi [] h,Bool.and_false]
theorem FW (m s:List (List Int)) (g:GmT) (b:Bool) (q:List (List Int)) (hg:bf m s g) :
  Does Tryz.prog 54 [.tv (.agg [.b (.sl (.k 2 g.list)),.b (.sl (.kii 4 (ch4 g.ch))),.b (.val (.bool b))]),.sl (.ii q)] (.imm (.bool (dU m s g q))):=by
 have hle:=hg.le
 have hcl:=hg.clen
 have hl4:(ch4 g.ch).length=g.ch.length:=by simp [ch4]
 have hpl:=bC hg.prob
 refine aF Tryz.func54 rfl Tryz.ntmps54 aP (fun _ _=>by kernel_rfl) rfl (Nat.le_of_ble_eq_true rfl) ?_
 intro M0 w0
 rw [Tryz.results54]
 (refine dB 1 rfl fun hf =>?_;simp only [xp,simprocAttr] at hf;simp only [xf,simprocAttr] at hf)
 refine ah ?_
 refine aj amQ (fun hc =>?_) (fun hc =>?_)
 ·have hc:¬ (q.length:Int)=g.list.length:=by simpa using hc
  have e:dU m s g q=false:=by
   unfold dU
   rw [show (q.length == g.list.length)=false by rw [beq_eq_false_iff_ne];omega,Bool.false_and]
  refine ah ?_
  refine bI ?_
  rw [e]
 have hc:(q.length:Int)=g.list.length:=by simpa using hc
 refine ah ?_
 refine aA (α:=Nat) (fun i=>[(5,true,.int i)]) [1,2] (fun _=>[.box [.b (.sl (.k 2 g.list)),.b (.sl (.kii 4 (ch4 g.ch))),.b (.val (.bool b))]]) (fun i=>i<=q.length/\(q.take i).all (nV m.length s)=true) (fun i=>q.length-i) 0 (by exact bY) ⟨Nat.zero_le _,by simp⟩ fun i hi =>?_
 obtain ⟨hi,hall⟩:=hi
 simp only [xr,simprocAttr]
 refine ah ?_
 refine aj amQ (fun hd =>?_) (fun hd =>?_)
 ·have hd:=of_decide_eq_true hd
  have hi':i<q.length:=by omega
  have hic:i<g.ch.length:=by omega
  have hrl:=hg.c.len i hic
  have h4:=jV hic
  refine ah ?_
  rw [h4,List.length_map,hrl]
  refine aj amQ (fun he =>?_) (fun he =>?_)
  ·have he:¬ ((q.getD i []).length:Int)=s.length:=by simpa using he
   have e:dU m s g q=false:=L9 hi' (Hg (by omega))
   refine ah ?_
   refine bI ?_
   rw [e]
  ·have he:((q.getD i []).length:Int)=s.length:=by simpa using he
   refine ah ?_
   refine aA (α:=Nat) (fun r=>[(6,true,.int r)]) [1,2,5] (fun _=>[.box [.b (.sl (.k 2 g.list)),.b (.sl (.kii 4 (ch4 g.ch))),.b (.val (.bool b))]]) (fun r=>r<=s.length/\∀ k (_:k<r),zk m.length s k ((q.getD i []).getD k 0)=true) (fun r=>s.length-r) 0 (by exact bY) ⟨Nat.zero_le _,fun k hk=>by omega⟩ fun r hr =>?_
   obtain ⟨hr,hok⟩:=hr
   simp only [xr,simprocAttr]
   refine ah ?_
   refine aj amQ (fun hn =>?_) (fun hn =>?_)
   ·have hn:=of_decide_eq_true hn
    have hr':r<s.length:=by omega
    have h42:=lV hic (r:=r) (by omega)
    have hrow:=hg.c.row i r hic hr'
    have hch:=Pv hrow ((q.getD i []).getD r 0)
    have h4l:((ch4 g.ch).getD i []).length=s.length:=by rw [h4,List.length_map,hrl]
    refine ah ?_
    rw [h42]
    ((try refine Or.inl ?_);refine ⟨_,(Bh _ _),.inl rfl,?_⟩;refine amC ?_)
    refine ah ?_
    refine aj amQ (fun hx =>?_) (fun hx =>?_)
    ·have hx:=of_decide_eq_true hx
     have hto:zk m.length s r ((q.getD i []).getD r 0)=false:=by
      cases e:zk m.length s r ((q.getD i []).getD r 0)
      ·rfl
      ·have:=hch.2 e
       omega
     have e:dU m s g q=false:=L9 hi' (LU (r:=r) (by omega) (by rw [← getD_in (d:=0) (by omega:r<(q.getD i []).length)];exact hto))
     refine ah ?_
     refine bI ?_
     rw [e]
    ·have hx:=of_decide_eq_false hx
     refine ah ?_
     refine ⟨r+1,by omega,fun k hk =>?_,by omega,.inl ?_⟩
     ·rcases Nat.lt_or_ge k r with h1 | h1
      ·exact hok k h1
      ·obtain rfl:k=r:=by omega
       exact hch.1 (by omega)
     ·exact bY
   ·have hn:=of_decide_eq_false hn
    have hr':r=s.length:=by omega
    subst hr'
    have hsv:nV m.length s (q.getD i [])=true:=AA (by omega) fun k hk=>by rw [← getD_in (d:=0) hk];exact hok k (by omega)
    refine ah ?_
    refine ⟨i+1,by omega,?_,by omega,.inl ?_⟩
    ·rw [bD hi' [],List.all_append,hall]
     simp only [List.all_cons,List.all_nil,hsv]
     rfl
    ·exact bY
 ·have hd:=of_decide_eq_false hd
  have hi':i=q.length:=by omega
  subst hi'
  rw [List.take_length] at hall
  have e:dU m s g q=true:=by
   unfold dU
   rw [hall,show (q.length == g.list.length)=true by rw [beq_iff_eq];omega]
   rfl
  refine ah ?_
  refine bI ?_
  rw [e]
def acC (m s:List (List Int)) (x:Int) (q:List (List Int)):AV := .tup [.one (.b (.val (.bool (!(gmQ m s x).2 && dU m s (gmQ m s x).1 q)))),.one (.b (.val (.bool (!(gmQ m s x).2))))]
theorem FU (m s:List (List Int)) (row:List Int) (hrow:∀ r,r<s.length->(s.getD r []).length=m.length):Does Tryz.prog 111 [.sl (.ints row),.lf (.ip [.sl (.ii m),.sl (.ii s)] 0)] (.imm (.bool (!nV m.length s row))):=by
 refine aF Tryz.func111 rfl Tryz.ntmps111 aP (fun _ _=>by kernel_rfl) rfl (Nat.le_of_ble_eq_true rfl) ?_
 intro M0 w0
 rw [Tryz.results111]
 refine ah ?_
 ((try refine Or.inl ?_);refine ⟨_,(JQ _ _ _ hrow),.inl rfl,?_⟩;refine amC ?_)
 refine ah ?_
 refine bI ?_
 rfl
theorem qU (m s:List (List Int)) (g:GmT) (q:List (List Int)) (hrow:∀ r,r<s.length->(s.getD r []).length=m.length):Does Tryz.prog 49 [.lf (.ip [.sl (.k 2 g.list),.sl (.kii 6 g.ch)] 0),prA m s,.sl (.ii q)] (.imm (.bool (dU m s g q))):=by
 refine aF Tryz.func49 rfl Tryz.ntmps49 aP (fun _ _=>by kernel_rfl) rfl (Nat.le_of_ble_eq_true rfl) ?_
 intro M0 w0
 rw [Tryz.results49]
 refine ah ?_
 ((try refine Or.inl ?_);refine ⟨_,(fun _=>zI q _ [.ip [.sl (.ii m),.sl (.ii s)] 0] (fun r => !nV m.length s r) rfl fun j hj=>FU m s _ hrow),.inl rfl,?_⟩;refine amC ?_)
 refine ah ?_
 refine bI ?_
 show AV.bool _=AV.bool _
 rw [XA]
 unfold dU
 congr 1
 simp only [Bool.cond_false_right,Iq]
theorem yu (m s:List (List Int)) (x:Int) (q:List (List Int)):Does Tryz.prog 15 [prA m s,.int x,.sl (.ii q)] (.imm (acC m s x q)):=by
 refine aF Tryz.func15 rfl Tryz.ntmps15 aP (fun _ _=>by kernel_rfl) rfl (Nat.le_of_ble_eq_true rfl) ?_
 intro M0 w0
 rw [Tryz.results15]
 refine ah ?_
 cases hb:(gmQ m s x).2
 ·have hf:=dS hb
  (refine .inr (.inl (aJ [] (kW hb) rfl rfl rfl rfl trivial rfl rfl rfl rfl ?_));refine amC ?_)
  refine ah ?_
  refine aj amQ (fun hc =>?_) (fun hc =>?_)
  ·cases hc
  refine ah ?_
  ((try refine Or.inl ?_);refine ⟨_,(qU m s (gmQ m s x).1 q (iZ hf.prob)),.inl rfl,?_⟩;refine amC ?_)
  refine ah ?_
  (simp only [xe,simprocAttr];refine ⟨[_,_],⟨rfl,rfl,trivial⟩,rfl,Imp.eq ?_⟩)
  unfold acC
  rw [hb]
  rfl
 ·(refine .inr (.inl (fC (sU hb) rfl rfl rfl rfl rfl rfl rfl ?_));refine amC ?_)
  refine ah ?_
  refine aj amQ (fun hc =>?_) (fun hc =>?_)
  ·refine ah ?_
   (simp only [xe,simprocAttr];refine ⟨[_,_],⟨rfl,rfl,trivial⟩,rfl,Imp.eq ?_⟩)
   unfold acC
   rw [hb]
   rfl
  ·cases hc
theorem yw (m s:List (List Int)) (x:Int) (q:List (List Int)):Does Tryz.prog 15 [prA m s,.int x,.sl (.ii q)] (.imm (.tup [.one (.b (.val (.bool (!(gmQ m s x).2 && dU m s (gmQ m s x).1 q)))),.one (.b (.val (.bool (!(gmQ m s x).2))))])):=yu m s x q
end Go.Proofs.YtkcelmnbfbehbaaGreat
namespace Go.Proofs.YtkcelmnbfbehbaaGreat
def mZ (g:GmT) (a r:Nat):List (List Int):=(g.ch.getD a []).getD r []
def gW (g:GmT) (q:List (List Int)) (a r:Nat):List Int:=(mZ g a r).getD (BJ (mZ g a r) ((q.getD a []).getD r 0)).toNat []
def nY (g:GmT) (q:List (List Int)) (a:Nat) (r:Int):Nat:=((gW g q a r.toNat).getD 1 0).toNat
def rAt (g:GmT) (q:List (List Int)):Nat->List Int->Nat
 | a,[]=>a
 | a,r::rs=>rAt g q (nY g q a r) rs
def qZ (g:GmT) (q:List (List Int)):Nat->List Int->List Int
 | _,[]=>[]
 | a,r::rs=>(gW g q a r.toNat).getD 5 0::qZ g q (nY g q a r) rs
def oq (g:GmT) (q:List (List Int)):Nat->List Int->Int
 | _,[]=>0
 | a,r::rs=>(gW g q a r.toNat).getD 2 0+oq g q (nY g q a r) rs
section
variable {g:GmT} {q:List (List Int)}
theorem QD:∀ (a:Nat) (us vs:List Int),rAt g q a (us++vs)=rAt g q (rAt g q a us) vs
 | _,[],_=>rfl
 | _,_::us,vs=>QD _ us vs
theorem LH:∀ (a:Nat) (us vs:List Int),qZ g q a (us++vs)=qZ g q a us++qZ g q (rAt g q a us) vs
 | _,[],_=>rfl
 | _,_::us,vs=>by simp only [List.cons_append,qZ,rAt,LH _ us vs]
theorem LJ:∀ (a:Nat) (us vs:List Int),oq g q a (us++vs)=oq g q a us+oq g q (rAt g q a us) vs
 | _,[],_=>by simp [oq,rAt]
 | _,_::us,vs=>by
  simp only [List.cons_append,oq,rAt,LJ _ us vs]
  omega
theorem yT:∀ (a:Nat) (rs:List Int),(qZ g q a rs).length=rs.length
 | _,[]=>rfl
 | _,_::rs=>by simp [qZ,yT _ rs]
theorem EO {a k:Nat} {rs:List Int} (h:k<rs.length):rAt g q a (rs.take (k+1))=nY g q (rAt g q a (rs.take k)) (rs.getD k 0):=by
 rw [bD h 0,QD]
 rfl
theorem Hf {a k:Nat} {rs:List Int} (h:k<rs.length):qZ g q a (rs.take (k+1))=qZ g q a (rs.take k)++[(gW g q (rAt g q a (rs.take k)) (rs.getD k 0).toNat).getD 5 0]:=by
 rw [bD h 0,LH]
 rfl
theorem Aj {a k:Nat} {rs:List Int} (h:k<rs.length):oq g q a (rs.take (k+1))=oq g q a (rs.take k)+(gW g q (rAt g q a (rs.take k)) (rs.getD k 0).toNat).getD 2 0:=by
 rw [bD h 0,LJ]
 simp [oq]
end
structure acP (m:List (List Int)) (g:GmT) (q:List (List Int)) (a r k:Nat):Prop where
 at_:BJ (mZ g a r) ((q.getD a []).getD r 0)=k
 lt:k<(mZ g a r).length
 eq:gW g q a r=(mZ g a r).getD k []
 el:DK m g.list.length a r (gW g q a r)
 rl:(q.getD a []).length=(g.ch.getD a []).length
theorem Az {m s:List (List Int)} {g:GmT} {q:List (List Int)} (hg:bf m s g) (hq:dU m s g q=true) {a r:Nat} (ha:a<g.list.length) (hr:r<s.length):∃ k,acP m g q a r k:=by
 unfold dU at hq
 simp only [Bool.and_eq_true,beq_iff_eq] at hq
 obtain ⟨h1,h2⟩:=hq
 have ha':a<q.length:=by omega
 have h3:=List.all_eq_true.1 h2 (q.getD a []) (by rw [getD_in ha'];exact List.getElem_mem ha')
 unfold nV at h3
 simp only [Bool.and_eq_true,beq_iff_eq] at h3
 have h4:=bG.1 h3.2 r (by omega)
 have hac:a<g.ch.length:=by rw [hg.clen];exact ha
 have hrow:=hg.c.row a r hac hr
 have h5:=(Pv hrow ((q.getD a []).getD r 0)).2 h4
 obtain ⟨k,hk,h6,h7⟩:=nG h5
 have h6:BJ (mZ g a r) ((q.getD a []).getD r 0)=k:=h6
 have h8:gW g q a r=(mZ g a r).getD k []:=by unfold gW;rw [h6,Int.toNat_natCast]
 exact ⟨k,h6,hk,h8,by rw [h8,getD_in (d:=[]) (show k<(mZ g a r).length from hk)];exact hrow.el _ (List.getElem_mem hk),by rw [hg.c.len a hac,h3.1]⟩
theorem yY {m s:List (List Int)} {g:GmT} {q:List (List Int)} (hg:bf m s g) (hq:dU m s g q=true) {a:Nat} {r:Nat} (ha:a<g.list.length) (hr:r<s.length):(gW g q a r).getD 1 0=(nY g q a r:Nat)/\nY g q a r<g.list.length/\0<=(gW g q a r).getD 2 0/\(gW g q a r).getD 2 0<=119:=by
 obtain ⟨k,h⟩:=Az hg hq ha hr
 obtain ⟨k',u,c,b,h1,h2,h3,h4,h5,h6,h7⟩:=h.el
 have e:nY g q a r=k':=by
  unfold nY
  rw [Int.toNat_natCast,h1]
  simp
 rw [e,h1]
 exact ⟨rfl,h2,h4,h5⟩
theorem Oo {m s:List (List Int)} {g:GmT} {q:List (List Int)} (hg:bf m s g) (hq:dU m s g q=true):∀ (rs:List Int) (a:Nat),a<g.list.length->jJ s.length rs->rAt g q a rs<g.list.length
 | [],a,ha,_=>ha
 | r::rs,a,ha,h=>by
  have h1:=h r (by simp)
  have h2:=(yY hg hq ha (r:=r.toNat) (by omega)).2.1
  rw [show ((r.toNat:Nat):Int)=r by omega] at h2
  exact Oo hg hq rs _ h2 fun v hv=>h v (by simp [hv])
theorem CQ {m s:List (List Int)} {g:GmT} {q:List (List Int)} (hg:bf m s g) (hq:dU m s g q=true):∀ (rs:List Int) (a:Nat),a<g.list.length->jJ s.length rs->0<=oq g q a rs/\oq g q a rs<=119*rs.length
 | [],a,ha,_=>by simp [oq]
 | r::rs,a,ha,h=>by
  have h1:=h r (by simp)
  obtain ⟨-,h2,h3,h4⟩:=yY hg hq ha (r:=r.toNat) (by omega)
  rw [show ((r.toNat:Nat):Int)=r by omega] at h2
  have ih:=CQ hg hq rs _ h2 fun v hv=>h v (by simp [hv])
  simp only [oq,List.length_cons]
  omega
end Go.Proofs.YtkcelmnbfbehbaaGreat
