/- Strategies on the machine. Conditions: games that are whole. -/
import Derived.Test.YtnblieajjclipaaGreatZGDR
set_option linter.all false
namespace Go.Proofs.YtnblieajjclipaaGreat
open Go Go.RowKit Am
theorem Az (row:List (List Int)) (x:Int):Does Tryz.prog 71 [.sl (.k 4 (row.map c4)),.int x] (.imm (.int (E5 row x))):=by
 refine aF Tryz.func71 rfl Tryz.ntmps71 aQ (fun _ _=>by kernel_rfl) rfl (Nat.le_of_ble_eq_true rfl) ?_
 intro M0 w0
 rw [Tryz.results71]
 (refine bY 0 rfl fun hf =>?_;simp only [xp,simprocAttr] at hf;simp only [xf,simprocAttr] at hf)
 refine ah ?_
 refine aA (α:=Nat) (fun k=>[(5,true,.int k)]) [0,1] (fun _=>[]) (fun k=>k<=row.length/\∀ c∈row.take k,decide (c.getD 5 0=x)=false) (fun k=>row.length-k) 0 (by exact bW) ⟨Nat.zero_le _,by simp⟩ fun k hk =>?_
 obtain ⟨hk,hp⟩:=hk
 have hml:(row.map c4).length=row.length:=by simp
 simp only [xr,simprocAttr]
 refine ah ?_
 refine aj amQ (fun hc =>?_) (fun hc =>?_)
 ·have hc:=of_decide_eq_true hc
  have hk':k<row.length:=by omega
  have hat:(row.map c4).getD k []=c4 row[k]:=by rw [iw hk' [] [],getD_in hk']
  refine ah ?_
  rw [hat]
  refine aj amQ (fun hd =>?_) (fun hd =>?_)
  ·have hd:decide (row[k].getD 5 0=x)=true:=hd
   have e:E5 row x=k:=ig hk' hd hp
   refine ah ?_
   refine bJ ?_
   rw [e]
  ·have hd:decide (row[k].getD 5 0=x)=false:=hd
   refine ah ?_
   refine ⟨k+1,by omega,fun c hc =>?_,by omega,.inl ?_⟩
   ·rw [List.take_succ_eq_append_getElem hk',List.mem_append,List.mem_singleton] at hc
    rcases hc with hc | rfl
    ·exact hp c hc
    ·exact hd
   ·exact bW
 ·have hc:=of_decide_eq_false hc
  have hk':k=row.length:=by omega
  subst hk'
  rw [List.take_length] at hp
  have e:E5 row x = -1:=gZ hp
  refine ah ?_
  refine bJ ?_
  rw [e]
theorem LU {m s:List (List Int)} {g:GmT} {q:List (List Int)} {i:Nat} (hi:i<q.length) (h:nP m.length s (q.getD i [])=false):dP m s g q=false:=by
 unfold dP
 rw [L8 hi [] h,Bool.and_false]
theorem uV (m s:List (List Int)) (g:GmT) (b:Bool) (q:List (List Int)) (hg:aU m s g) :
  Does Tryz.prog 63 [.tv (.agg [.b (.sl (.k 2 g.list)),.b (.sl (.kii 4 (ch4 g.ch))),.b (.val (.bool b))]),.sl (.ii q)] (.imm (.bool (dP m s g q))):=by
 have hle:=hg.le
 have hcl:=hg.clen
 have hl4:(ch4 g.ch).length=g.ch.length:=by simp [ch4]
 have hpl:=bI hg.prob
 refine aF Tryz.func63 rfl Tryz.ntmps63 aQ (fun _ _=>by kernel_rfl) rfl (Nat.le_of_ble_eq_true rfl) ?_
 intro M0 w0
 rw [Tryz.results63]
 (refine bY 1 rfl fun hf =>?_;simp only [xp,simprocAttr] at hf;simp only [xf,simprocAttr] at hf)
 refine ah ?_
 refine aj amQ (fun hc =>?_) (fun hc =>?_)
 ·have hc:¬ (q.length:Int)=g.list.length:=by simpa using hc
  have e:dP m s g q=false:=by
   unfold dP
   rw [show (q.length == g.list.length)=false by rw [beq_eq_false_iff_ne];omega,Bool.false_and]
  refine ah ?_
  refine bJ ?_
  rw [e]
 have hc:(q.length:Int)=g.list.length:=by simpa using hc
 refine ah ?_
 refine aA (α:=Nat) (fun i=>[(5,true,.int i)]) [1,2] (fun _=>[.box [.b (.sl (.k 2 g.list)),.b (.sl (.kii 4 (ch4 g.ch))),.b (.val (.bool b))]]) (fun i=>i<=q.length/\(q.take i).all (nP m.length s)=true) (fun i=>q.length-i) 0 (by exact bW) ⟨Nat.zero_le _,by simp⟩ fun i hi =>?_
 obtain ⟨hi,hall⟩:=hi
 simp only [xr,simprocAttr]
 refine ah ?_
 refine aj amQ (fun hd =>?_) (fun hd =>?_)
 ·have hd:=of_decide_eq_true hd
  have hi':i<q.length:=by omega
  have hic:i<g.ch.length:=by omega
  have hrl:=hg.c.len i hic
  have h4:=lJ hic
  refine ah ?_
  rw [h4,List.length_map,hrl]
  refine aj amQ (fun he =>?_) (fun he =>?_)
  ·have he:¬ ((q.getD i []).length:Int)=s.length:=by simpa using he
   have e:dP m s g q=false:=LU hi' (GL (by omega))
   refine ah ?_
   refine bJ ?_
   rw [e]
  ·have he:((q.getD i []).length:Int)=s.length:=by simpa using he
   refine ah ?_
   refine aA (α:=Nat) (fun r=>[(6,true,.int r)]) [1,2,5] (fun _=>[.box [.b (.sl (.k 2 g.list)),.b (.sl (.kii 4 (ch4 g.ch))),.b (.val (.bool b))]]) (fun r=>r<=s.length/\∀ k (_:k<r),yY m.length s k ((q.getD i []).getD k 0)=true) (fun r=>s.length-r) 0 (by exact bW) ⟨Nat.zero_le _,fun k hk=>by omega⟩ fun r hr =>?_
   obtain ⟨hr,hok⟩:=hr
   simp only [xr,simprocAttr]
   refine ah ?_
   refine aj amQ (fun hn =>?_) (fun hn =>?_)
   ·have hn:=of_decide_eq_true hn
    have hr':r<s.length:=by omega
    have h42:=lZ hic (r:=r) (by omega)
    have hrow:=hg.c.row i r hic hr'
    have hch:=O8 hrow ((q.getD i []).getD r 0)
    have h4l:((ch4 g.ch).getD i []).length=s.length:=by rw [h4,List.length_map,hrl]
    refine ah ?_
    rw [h42]
    ((try refine Or.inl ?_);refine ⟨_,(Az _ _),.inl rfl,?_⟩;refine amC ?_)
    refine ah ?_
    refine aj amQ (fun hx =>?_) (fun hx =>?_)
    ·have hx:=of_decide_eq_true hx
     have hto:yY m.length s r ((q.getD i []).getD r 0)=false:=by
      cases e:yY m.length s r ((q.getD i []).getD r 0)
      ·rfl
      ·have:=hch.2 e
       omega
     have e:dP m s g q=false:=LU hi' (LC (r:=r) (by omega) (by rw [← getD_in (d:=0) (by omega:r<(q.getD i []).length)];exact hto))
     refine ah ?_
     refine bJ ?_
     rw [e]
    ·have hx:=of_decide_eq_false hx
     refine ah ?_
     refine ⟨r+1,by omega,fun k hk =>?_,by omega,.inl ?_⟩
     ·rcases Nat.lt_or_ge k r with h1 | h1
      ·exact hok k h1
      ·obtain rfl:k=r:=by omega
       exact hch.1 (by omega)
     ·exact bW
   ·have hn:=of_decide_eq_false hn
    have hr':r=s.length:=by omega
    subst hr'
    have hsv:nP m.length s (q.getD i [])=true:=GN (by omega) fun k hk=>by rw [← getD_in (d:=0) hk];exact hok k (by omega)
    refine ah ?_
    refine ⟨i+1,by omega,?_,by omega,.inl ?_⟩
    ·rw [eU hi' [],List.all_append,hall]
     simp only [List.all_cons,List.all_nil,hsv]
     rfl
    ·exact bW
 ·have hd:=of_decide_eq_false hd
  have hi':i=q.length:=by omega
  subst hi'
  rw [List.take_length] at hall
  have e:dP m s g q=true:=by
   unfold dP
   rw [hall,show (q.length == g.list.length)=true by rw [beq_iff_eq];omega]
   rfl
  refine ah ?_
  refine bJ ?_
  rw [e]
def Oz (m s:List (List Int)) (x:Int) (q:List (List Int)):AV := .tup [.one (.b (.val (.bool (!(gmQ m s x).2 && dP m s (gmQ m s x).1 q)))),.one (.b (.val (.bool (!(gmQ m s x).2))))]
theorem yU (m s:List (List Int)) (x:Int) (q:List (List Int)):Does Tryz.prog 21 [prA m s,.int x,.sl (.ii q)] (.imm (Oz m s x q)):=by
 refine aF Tryz.func21 rfl Tryz.ntmps21 aQ (fun _ _=>by kernel_rfl) rfl (Nat.le_of_ble_eq_true rfl) ?_
 intro M0 w0
 rw [Tryz.results21]
 refine ah ?_
 cases ht:bH m s x []
 ·((try refine Or.inl ?_);refine ⟨_,(kY ht),amF,?_⟩;refine amC ?_)
  refine ah ?_
  refine aj amQ (fun hc =>?_) (fun hc =>?_)
  ·have hb:(gmQ m s x).2=true:=by rw [Bj ht]
   refine ah ?_
   (simp only [xe,simprocAttr];refine ⟨[_,_],⟨rfl,rfl,trivial⟩,rfl,Imp.eq ?_⟩)
   unfold Oz
   rw [hb]
   rfl
  ·cases hc
 ·((try refine Or.inl ?_);refine ⟨_,(fC ht),amF,?_⟩;refine amC ?_)
  refine ah ?_
  refine aj amQ (fun hc =>?_) (fun hc =>?_)
  ·have hb:(gmQ m s x).2=true:=by simpa using hc
   refine ah ?_
   (simp only [xe,simprocAttr];refine ⟨[_,_],⟨rfl,rfl,trivial⟩,rfl,Imp.eq ?_⟩)
   unfold Oz
   rw [hb]
   rfl
  ·have hb:(gmQ m s x).2=false:=by simpa using hc
   refine ah ?_
   ((try refine Or.inl ?_);refine ⟨_,(uV m s _ _ q (fM hb)),.inl rfl,?_⟩;refine amC ?_)
   refine ah ?_
   (simp only [xe,simprocAttr];refine ⟨[_,_],⟨rfl,rfl,trivial⟩,rfl,Imp.eq ?_⟩)
   unfold Oz
   rw [hb]
   rfl
theorem Fb (m s:List (List Int)) (row:List Int) (hrow:∀ r,r<s.length->(s.getD r []).length=m.length):Does Tryz.prog 124 [.sl (.ints row),.lf (.ip [.sl (.ii m),.sl (.ii s)] 0)] (.imm (.bool (!nP m.length s row))):=by
 refine aF Tryz.func124 rfl Tryz.ntmps124 aQ (fun _ _=>by kernel_rfl) rfl (Nat.le_of_ble_eq_true rfl) ?_
 intro M0 w0
 rw [Tryz.results124]
 refine ah ?_
 ((try refine Or.inl ?_);refine ⟨_,(Jz _ _ _ hrow),.inl rfl,?_⟩;refine amC ?_)
 refine ah ?_
 refine bJ ?_
 rfl
theorem yg (m s:List (List Int)) (g:GmT) (q:List (List Int)) (hrow:∀ r,r<s.length->(s.getD r []).length=m.length):Does Tryz.prog 62 [.lf (.ip [.sl (.k 2 g.list),.sl (.kii 6 g.ch)] 0),prA m s,.sl (.ii q)] (.imm (.bool (dP m s g q))):=by
 refine aF Tryz.func62 rfl Tryz.ntmps62 aQ (fun _ _=>by kernel_rfl) rfl (Nat.le_of_ble_eq_true rfl) ?_
 intro M0 w0
 rw [Tryz.results62]
 refine ah ?_
 ((try refine Or.inl ?_);refine ⟨_,(fun _=>zx q _ [.ip [.sl (.ii m),.sl (.ii s)] 0] (fun r => !nP m.length s r) rfl fun j hj=>Fb m s _ hrow),.inl rfl,?_⟩;refine amC ?_)
 refine ah ?_
 refine bJ ?_
 show AV.bool _=AV.bool _
 rw [Xv]
 unfold dP
 congr 1
 simp only [Bool.cond_false_right,xK]
theorem yc (m s:List (List Int)) (x:Int) (q:List (List Int)):Does Tryz.prog 20 [prA m s,.int x,.sl (.ii q)] (.imm (Oz m s x q)):=by
 refine aF Tryz.func20 rfl Tryz.ntmps20 aQ (fun _ _=>by kernel_rfl) rfl (Nat.le_of_ble_eq_true rfl) ?_
 intro M0 w0
 rw [Tryz.results20]
 refine ah ?_
 cases hb:(gmQ m s x).2
 ·have hf:=fM hb
  (refine .inr (.inl (aJ [] (rW hb) rfl rfl rfl rfl trivial rfl rfl rfl rfl ?_));refine amC ?_)
  refine ah ?_
  refine aj amQ (fun hc =>?_) (fun hc =>?_)
  ·cases hc
  refine ah ?_
  ((try refine Or.inl ?_);refine ⟨_,(yg m s (gmQ m s x).1 q (kE hf.prob)),.inl rfl,?_⟩;refine amC ?_)
  refine ah ?_
  (simp only [xe,simprocAttr];refine ⟨[_,_],⟨rfl,rfl,trivial⟩,rfl,Imp.eq ?_⟩)
  unfold Oz
  rw [hb]
  rfl
 ·(refine .inr (.inl (gJ (xX hb) rfl rfl rfl rfl rfl rfl rfl ?_));refine amC ?_)
  refine ah ?_
  refine aj amQ (fun hc =>?_) (fun hc =>?_)
  ·refine ah ?_
   (simp only [xe,simprocAttr];refine ⟨[_,_],⟨rfl,rfl,trivial⟩,rfl,Imp.eq ?_⟩)
   unfold Oz
   rw [hb]
   rfl
  ·cases hc
theorem oH (m s:List (List Int)) (x:Int) (q:List (List Int)):Does Tryz.prog 21 [prA m s,.int x,.sl (.ii q)] (.imm (.tup [.one (.b (.val (.bool (!(gmQ m s x).2 && dP m s (gmQ m s x).1 q)))),.one (.b (.val (.bool (!(gmQ m s x).2))))])):=yU m s x q
theorem nY (m s:List (List Int)) (x:Int) (q:List (List Int)):Does Tryz.prog 20 [prA m s,.int x,.sl (.ii q)] (.imm (.tup [.one (.b (.val (.bool (!(gmQ m s x).2 && dP m s (gmQ m s x).1 q)))),.one (.b (.val (.bool (!(gmQ m s x).2))))])):=yc m s x q
end Go.Proofs.YtnblieajjclipaaGreat
namespace Go.Proofs.YtnblieajjclipaaGreat
def rO (g:GmT) (a r:Nat):List (List Int):=(g.ch.getD a []).getD r []
def iU (g:GmT) (q:List (List Int)) (a r:Nat):List Int:=(rO g a r).getD (E5 (rO g a r) ((q.getD a []).getD r 0)).toNat []
def pY (g:GmT) (q:List (List Int)) (a:Nat) (r:Int):Nat:=((iU g q a r.toNat).getD 1 0).toNat
structure acH (m:List (List Int)) (g:GmT) (q:List (List Int)) (a r k:Nat):Prop where
 at_:E5 (rO g a r) ((q.getD a []).getD r 0)=k
 lt:k<(rO g a r).length
 eq:iU g q a r=(rO g a r).getD k []
 el:CW m g.list.length a r (iU g q a r)
 rl:(q.getD a []).length=(g.ch.getD a []).length
theorem EC {m s:List (List Int)} {g:GmT} {q:List (List Int)} (hg:aU m s g) (hq:dP m s g q=true) {a r:Nat} (ha:a<g.list.length) (hr:r<s.length):∃ k,acH m g q a r k:=by
 unfold dP at hq
 simp only [Bool.and_eq_true,beq_iff_eq] at hq
 obtain ⟨h1,h2⟩:=hq
 have ha':a<q.length:=by omega
 have h3:=List.all_eq_true.1 h2 (q.getD a []) (by rw [getD_in ha'];exact List.getElem_mem ha')
 unfold nP at h3
 simp only [Bool.and_eq_true,beq_iff_eq] at h3
 have h4:=bF.1 h3.2 r (by omega)
 have hac:a<g.ch.length:=by rw [hg.clen];exact ha
 have hrow:=hg.c.row a r hac hr
 have h5:=(O8 hrow ((q.getD a []).getD r 0)).2 h4
 obtain ⟨k,hk,h6,h7⟩:=Dt h5
 have h6:E5 (rO g a r) ((q.getD a []).getD r 0)=k:=h6
 have h8:iU g q a r=(rO g a r).getD k []:=by unfold iU;rw [h6,Int.toNat_natCast]
 exact ⟨k,h6,hk,h8,by rw [h8,getD_in (d:=[]) (show k<(rO g a r).length from hk)];exact hrow.el _ (List.getElem_mem hk),by rw [hg.c.len a hac,h3.1]⟩
theorem yP {m s:List (List Int)} {g:GmT} {q:List (List Int)} (hg:aU m s g) (hq:dP m s g q=true) {a:Nat} {r:Nat} (ha:a<g.list.length) (hr:r<s.length):(iU g q a r).getD 1 0=(pY g q a r:Nat)/\pY g q a r<g.list.length/\0<=(iU g q a r).getD 2 0/\(iU g q a r).getD 2 0<=119:=by
 obtain ⟨k,h⟩:=EC hg hq ha hr
 obtain ⟨k',u,c,b,h1,h2,h3,h4,h5,h6,h7⟩:=h.el
 have e:pY g q a r=k':=by
  unfold pY
  rw [Int.toNat_natCast,h1]
  simp
 rw [e,h1]
 exact ⟨rfl,h2,h4,h5⟩
def chP (m s:List (List Int)) (t:dD) (L:List (List Int)) (c:List Int):Prop :=
 ∃ i st w r u k:Nat,∃ nx:Int,c=[(i:Int),(k:Int),at2 m st u+at2 s r u,Dq t w r,(r:Int),(u:Int)]/\nx=(t.next.getD w []).getD r 0 /\
  i<L.length/\L.getD i []=[(st:Int),(w:Int)]/\k<L.length/\L.getD k []=[(u:Int),nx]/\st<m.length/\w<t.list.length/\r<s.length/\u<m.length
theorem chP.mono {m s:List (List Int)} {t:dD} {L:List (List Int)} {c:List Int} (h:chP m s t L c) (e:List (List Int)):chP m s t (L++e) c:=by
 obtain ⟨i,st,w,r,u,k,nx,h1,h2,h3,h4,h5,h6,h7⟩:=h
 have g:∀ j,j<L.length->(L++e).getD j []=L.getD j []:=fun j hj=>by simp [List.getElem?_append_left hj]
 exact ⟨i,st,w,r,u,k,nx,h1,h2,by rw [List.length_append];omega,by rw [g i h3,h4],by rw [List.length_append];omega,by rw [g k h5,h6],h7⟩
theorem Jl {α:Type} [DecidableEq α] (l:List α) (x:α):∃ e,kT l x=l++e:=by
 unfold kT
 split
 ·exact ⟨[x],rfl⟩
 ·exact ⟨[],by simp⟩
theorem vT (m s:List (List Int)) (t:dD) (i st w r:Nat):∀ (us:List Int) (q:List (List Int)×List (List Int)),∃ e,(us.foldl (eF m s t i st w r) q).1=q.1++e
 | [],q=>⟨[],by simp⟩
 | u::us,q=>by
  obtain ⟨e1,h1⟩:=vT m s t i st w r us (eF m s t i st w r q u)
  obtain ⟨e2,h2⟩:=Jl q.1 (mD t w r u)
  have h3:(eF m s t i st w r q u).1=kT q.1 (mD t w r u):=rfl
  rw [List.foldl_cons,h1,h3,h2,List.append_assoc]
  exact ⟨e2++e1,rfl⟩
theorem J7 {m s:List (List Int)} {t:dD} {i st w r:Nat} (hst:st<m.length) (hw:w<t.list.length) (hr:r<s.length):∀ (us:List Int) (q:List (List Int)×List (List Int)),QH m s r us->i<q.1.length->q.1.getD i []=[(st:Int),(w:Int)]->(∀ c∈q.2,chP m s t q.1 c)->∀ c∈(us.foldl (eF m s t i st w r) q).2,chP m s t (us.foldl (eF m s t i st w r) q).1 c
 | [],q,_,_,_,hq,c,hc=>hq c hc
 | u::us,q,hu,hi,hl,hq,c,hc=>by
  rw [List.foldl_cons] at hc ⊢
  obtain ⟨e,he⟩:=Jl q.1 (mD t w r u)
  have h3:(eF m s t i st w r q u).1=q.1++e:=he
  have hl':(eF m s t i st w r q u).1.getD i []=[(st:Int),(w:Int)]:=by
   rw [h3,← hl]
   simp [List.getElem?_append_left hi]
  refine J7 hst hw hr us _ (fun v hv=>hu v (by simp [hv])) (by rw [h3,List.length_append];omega) hl' (fun c' hc' =>?_) c hc
  simp only [eF,List.mem_append,List.mem_singleton] at hc'
  rcases hc' with hc' | rfl
  ·rw [h3]
   exact (hq c' hc').mono e
  ·obtain ⟨y,rfl,hy,-⟩:=hu u (by simp)
   obtain ⟨k,k1,k2,k3⟩:=BH q.1 (mD t w r y) []
   refine ⟨i,st,w,r,y,k,_,?_,rfl,by rw [h3,List.length_append];omega,hl',k2,k3,hst,hw,hr,hy⟩
   unfold chG Aq
   rw [k1,Int.toNat_natCast]
theorem ug (m s:List (List Int)) (t:dD) (i st w:Nat) (l:List (List Int)):∀ r,∃ e,(bC m s t i st w l r).1=l++e
 | 0=>⟨[],by simp [bC]⟩
 | r+1=>by
  obtain ⟨e1,h1⟩:=ug m s t i st w l r
  obtain ⟨e2,h2⟩:=vT m s t i st w r (srv s m.length r) ((bC m s t i st w l r).1,[])
  refine ⟨e1++e2,?_⟩
  show (dV m s t i st w r (bC m s t i st w l r).1 (srv s m.length r)).1=_
  unfold dV
  rw [h2]
  show (bC m s t i st w l r).1++e2=_
  rw [h1,List.append_assoc]
theorem PU {m s:List (List Int)} {t:dD} {i st w:Nat} (hst:st<m.length) (hw:w<t.list.length) {l:List (List Int)} (hi:i<l.length) (hl:l.getD i []=[(st:Int),(w:Int)]):∀ r,r<=s.length->∀ row∈(bC m s t i st w l r).2,∀ c∈row,chP m s t (bC m s t i st w l r).1 c
 | 0,_=>fun row hrow=>by simp [bC] at hrow
 | r+1,hr=>fun row hrow c hc=>by
  obtain ⟨e1,h1⟩:=ug m s t i st w l r
  obtain ⟨e2,h2⟩:=vT m s t i st w r (srv s m.length r) ((bC m s t i st w l r).1,[])
  have h3:(bC m s t i st w l (r+1)).1=(bC m s t i st w l r).1++e2:=h2
  simp only [bC,List.mem_append,List.mem_singleton] at hrow
  rcases hrow with hrow | rfl
  ·rw [h3]
   exact (PU hst hw hi hl r (by omega) row hrow c hc).mono e2
  ·refine J7 hst hw (by omega) (srv s m.length r) ((bC m s t i st w l r).1,[]) (wR m s r m.length (Nat.le_refl _)) ?_ ?_ (fun c hc=>by simp at hc) c hc
   ·show i<(bC m s t i st w l r).1.length
    rw [h1,List.length_append]
    omega
   ·show (bC m s t i st w l r).1.getD i []=_
    rw [h1,← hl]
    simp [List.getElem?_append_left hi]
theorem YZ {m s:List (List Int)} {t:dD} (ht:qU s t) {x:Nat} (hx:x<m.length):∀ i,(∀ j,j<i->j<(gmT m s t x j).list.length)->∀ a∈(gmT m s t x i).ch,∀ row∈a,∀ c∈row,chP m s t (gmT m s t x i).list c
 | 0,_=>fun a ha=>by simp [gmT] at ha
 | i+1,hlt=>fun a ha row hrow c hc=>by
  have hok:=vW ht hx i fun j hj=>hlt j (by omega)
  obtain ⟨st,w,h1,h2,h3,h4,h5⟩:=FX hok (hlt i (by omega))
  obtain ⟨e,he⟩:=ug m s t i st w (gmT m s t x i).list s.length
  simp only [gmT,h2,h3,List.mem_append,List.mem_singleton] at ha
  show chP m s t (gmT m s t x (i+1)).list c
  simp only [gmT,h2,h3]
  rcases ha with ha | rfl
  ·rw [he]
   exact (YZ ht hx i (fun j hj=>hlt j (by omega)) a ha row hrow c hc).mono e
  ·exact PU h4 h5 (hlt i (by omega)) h1 s.length (Nat.le_refl _) row hrow c hc
end Go.Proofs.YtnblieajjclipaaGreat
namespace Go.Proofs.YtnblieajjclipaaGreat
open Go Go.RowKit Am
structure acA (E:List (List Int)) (K N:Nat):Prop where
 len:E.length=N*K
 n:N<=1000
 k:1<=K/\K<=10
 to:∀ c∈E,0<=c.getD 1 0/\c.getD 1 0<(N:Int)
theorem acA.at {E:List (List Int)} {K N:Nat} (h:acA E K N) {i r:Nat} (hi:i<N) (hr:r<K):i*K+r<E.length/\i*K<=10000:=by
 have h1:=Nat.mul_le_mul_right K (show i+1<=N by omega)
 rw [Nat.succ_mul] at h1
 have h2:i*K<=1000*10:=Nat.mul_le_mul (by have:=h.n;omega) h.k.2
 rw [h.len]
 omega
def toE (E:List (List Int)) (K p r:Nat):Nat:=((E.getD (p*K+r) []).getD 1 0).toNat
end Go.Proofs.YtnblieajjclipaaGreat
