/- The pairs of an algorithm and their edges: the plain laws. Conditions: problems and algorithms that are right. -/
import Derived.Test.YtkcelmnbfbehbaaGreatGB
set_option linter.all false
namespace Go.Proofs.YtkcelmnbfbehbaaGreat
def nxS (next:List (List Int)) (st r:Nat):Int:=at2 next st r
def egG (m s next:List (List Int)) (t:bW) (i st w:Nat) (l:List (List Int)) (r:Nat):List Int:=[(i:Int),oD l (fO t w r (nxS next st r)),jg m s st r (nxS next st r),lu t w r]
def aS (m s next:List (List Int)) (t:bW) (i st w:Nat) (l:List (List Int)):Nat->List (List Int)×List (List Int)
 | 0=>(l,[])
 | r+1=>(jP (aS m s next t i st w l r).1 (fO t w r (nxS next st r)),(aS m s next t i st w l r).2++[egG m s next t i st w (aS m s next t i st w l r).1 r])
structure PrT where
 list:List (List Int)
 rows:List (List (List Int))
def fM (g:PrT) (i:Nat):Nat:=((g.list.getD i []).getD 0 0).toNat
def jM (g:PrT) (i:Nat):Nat:=((g.list.getD i []).getD 1 0).toNat
def prT (m s next:List (List Int)) (t:bW) (x:Nat):Nat->PrT
 | 0=>⟨[[(x:Int),0]],[]⟩
 | i+1=>⟨(aS m s next t i (fM (prT m s next t x i) i) (jM (prT m s next t x i) i) (prT m s next t x i).list s.length).1,(prT m s next t x i).rows++[(aS m s next t i (fM (prT m s next t x i) i) (jM (prT m s next t x i) i) (prT m s next t x i).list s.length).2]⟩
def lZ (m s next:List (List Int)) (t:bW) (x:Nat):Nat->Nat->PrT×Bool
 | 0,i=>(prT m s next t x i,true)
 | f+1,i=>if i<(prT m s next t x i).list.length then (if 600<(prT m s next t x (i+1)).list.length then (prT m s next t x (i+1),true) else lZ m s next t x f (i+1)) else (prT m s next t x i,false)
def pr (m s next:List (List Int)) (x:Nat):PrT×Bool:=bif (gV m s x).2 then (⟨[[(x:Int),0]],[]⟩,true) else lZ m s next (gV m s x).1 x 1000 0
theorem mY (m s next:List (List Int)) (t:bW) (i st w:Nat) (l:List (List Int)):∀ r,l.length<=(aS m s next t i st w l r).1.length/\(aS m s next t i st w l r).1.length<=l.length+r/\(aS m s next t i st w l r).2.length=r
 | 0=>by simp [aS]
 | r+1=>by
  have h1:=mY m s next t i st w l r
  have h2:=ni (aS m s next t i st w l r).1 (fO t w r (nxS next st r))
  simp only [aS,List.length_append,List.length_singleton]
  omega
theorem P6 {m s next:List (List Int)} (ha:pY m s next=true) {st r:Nat} (hst:st<m.length) (hr:r<s.length):∃ y:Nat,nxS next st r=y/\y<m.length/\0<=at2 s r y:=by
 have h:=GY ha hst hr
 exact ⟨_,h.eq,h.lt,h.ok⟩
theorem uN {m s next:List (List Int)} {t:bW} (ht:ng s t) (ha:pY m s next=true) {i st w:Nat} (hst:st<m.length) (hw:w<t.list.length) {l:List (List Int)} (hl:∀ p∈l,vF m.length t.list.length p):∀ r,r<=s.length->∀ p∈(aS m s next t i st w l r).1,vF m.length t.list.length p
 | 0,_,p,hp=>hl p hp
 | r+1,hr,p,hp=>by
  rcases wY hp with h | rfl
  ·exact uN ht ha hst hw hl r (by omega) p h
  ·exact key_ok ht hw (by omega) (P6 ha hst (by omega))
def MX (n f:Nat) (c:List Int):Prop:=∃ (k:Nat) (a b:Int),c=[(f:Int),(k:Int),a,b]/\k<n/\0<=a/\a<=119/\0<=b/\b<=119
theorem MX.mono {n n' f:Nat} {c:List Int} (h:n<=n') (k:MX n f c):MX n' f c:=by
 obtain ⟨k,a,b,h1,h2,h3⟩:=k
 exact ⟨k,a,b,h1,by omega,h3⟩
theorem La {m s next:List (List Int)} {t:bW} (ht:ng s t) (hp:aO m s=true) (ha:pY m s next=true) {i st w:Nat} (hst:st<m.length) (hw:w<t.list.length) (l:List (List Int)):∀ r,r<=s.length->∀ c∈(aS m s next t i st w l r).2,MX (aS m s next t i st w l r).1.length i c
 | 0,_,c,hc=>by simp [aS] at hc
 | r+1,hr,c,hc=>by
  have h1:=ni (aS m s next t i st w l r).1 (fO t w r (nxS next st r))
  simp only [aS,List.mem_append,List.mem_singleton] at hc ⊢
  rcases hc with hc | rfl
  ·exact (La ht hp ha hst hw l r (by omega) c hc).mono h1.1
  ·obtain ⟨y,h2,h3,h4⟩:=P6 ha hst (show r<s.length by omega)
   obtain ⟨k,h5,h6,-⟩:=uM (aS m s next t i st w l r).1 (fO t w r (nxS next st r)) []
   have h7:=(iH hp hst).2 y h3
   have h8:=qW hp (show r<s.length by omega) y h3
   have h9:=ht.gr w r hw (by omega)
   refine ⟨k,jg m s st r (nxS next st r),lu t w r,by unfold egG;rw [h5],h6,?_,?_,h9.1,h9.2⟩
   ·rw [h2];unfold jg;rw [Int.toNat_natCast];omega
   ·rw [h2];unfold jg;rw [Int.toNat_natCast];omega
structure Sz (m s:List (List Int)) (t:bW) (g:PrT) (i:Nat):Prop where
 pos:0<g.list.length
 el:∀ p∈g.list,vF m.length t.list.length p
 rlen:g.rows.length=i
 row:∀ j,j<i->(g.rows.getD j []).length=s.length
 eg:∀ j,j<i->∀ c∈g.rows.getD j [],MX g.list.length j c
theorem Qc {m s:List (List Int)} {t:bW} {g:PrT} {i j:Nat} (h:Sz m s t g i) (hj:j<g.list.length):∃ st w:Nat,g.list.getD j []=[(st:Int),(w:Int)]/\fM g j=st/\jM g j=w/\st<m.length/\w<t.list.length:=by
 obtain ⟨st,w,h1,h2,h3⟩:=h.el (g.list.getD j []) (by rw [getD_in hj];exact List.getElem_mem hj)
 exact ⟨st,w,h1,by unfold fM;rw [h1];rfl,by unfold jM;rw [h1];rfl,h2,h3⟩
theorem DZ {m s next:List (List Int)} {t:bW} (ht:ng s t) (hp:aO m s=true) (ha:pY m s next=true) {x:Nat} (hx:x<m.length):∀ i,(∀ j,j<i->j<(prT m s next t x j).list.length)->Sz m s t (prT m s next t x i) i
 | 0,_=>⟨by simp [prT],fun p hp=>by
   simp only [prT,List.mem_singleton] at hp
   exact ⟨x,0,hp,hx,ht.pos⟩,rfl,fun j hj=>by omega,fun j hj=>by omega⟩
 | i+1,hlt=>by
  have ih:=DZ ht hp ha hx i fun j hj=>hlt j (by omega)
  obtain ⟨st,w,h1,h2,h3,h4,h5⟩:=Qc ih (hlt i (by omega))
  have h6:=mY m s next t i st w (prT m s next t x i).list s.length
  have h7:=ih.pos
  have hrl:=ih.rlen
  refine ⟨?_,?_,?_,fun j hj =>?_,fun j hj c hc =>?_⟩
  ·simp only [prT,h2,h3]
   omega
  ·simp only [prT,h2,h3]
   exact uN ht ha h4 h5 ih.el s.length (Nat.le_refl _)
  ·simp [prT,hrl]
  ·simp only [prT,h2,h3]
   by_cases e:j=i
   ·rw [fJ (by rw [hrl];exact e)]
    exact h6.2.2
   ·rw [fG (by omega)]
    exact ih.row j (by omega)
  ·simp only [prT,h2,h3] at hc ⊢
   by_cases e:j=i
   ·rw [fJ (by rw [hrl];exact e)] at hc
    rw [e]
    exact La ht hp ha h4 h5 _ s.length (Nat.le_refl _) c hc
   ·rw [fG (by omega)] at hc
    exact (ih.eg j (by omega) c hc).mono h6.1
structure PrI (m s next:List (List Int)) (t:bW) (x i:Nat):Prop where
 le:i<=600
 len:(prT m s next t x i).list.length<=600
 lt:∀ j,j<i->j<(prT m s next t x j).list.length
 run:lZ m s next t x 1000 0=lZ m s next t x (1000-i) i
section
variable {m s next:List (List Int)} {t:bW} {x i:Nat}
theorem PrI.first (m s next:List (List Int)) (t:bW) (x:Nat):PrI m s next t x 0:=⟨by omega,by simp [prT],fun j hj=>by omega,rfl⟩
theorem PrI.more (h:PrI m s next t x i) (h1:i<(prT m s next t x i).list.length):1000-i=(1000-(i+1))+1/\∀ j,j<i+1->j<(prT m s next t x j).list.length :=
 ⟨by have:=h.le;omega,fun j hj=>by
  by_cases e:j=i
  ·rw [e];exact h1
  ·exact h.lt j (by omega)⟩
theorem PrI.nxt (h:PrI m s next t x i) (h1:i<(prT m s next t x i).list.length) (h2:¬ 600<(prT m s next t x (i+1)).list.length):PrI m s next t x (i+1) :=
 ⟨by have:=h.len;omega,by omega,(h.more h1).2,by rw [h.run,(h.more h1).1,lZ,if_pos h1,if_neg h2]⟩
theorem PrI.large (h:PrI m s next t x i) (h1:i<(prT m s next t x i).list.length) (h2:600<(prT m s next t x (i+1)).list.length):lZ m s next t x 1000 0=(prT m s next t x (i+1),true):=by
 rw [h.run,(h.more h1).1,lZ,if_pos h1,if_pos h2]
theorem PrI.done (h:PrI m s next t x i) (h1:¬ i<(prT m s next t x i).list.length):lZ m s next t x 1000 0=(prT m s next t x i,false):=by
 have:=h.le
 rw [h.run,show 1000-i=(1000-(i+1))+1 by omega,lZ,if_neg h1]
end
theorem YB {m s nx:List (List Int)} {t:bW} {x i:Nat}:(prT m s nx t x i).list.length<=(prT m s nx t x (i+1)).list.length:=(mY m s nx t i _ _ (prT m s nx t x i).list s.length).1
theorem wM {m s nx:List (List Int)} {t:bW} {x:Nat}:∀ f i,(lZ m s nx t x f i).2=false->(∀ j,j<i->j<(prT m s nx t x j).list.length)->i<=(prT m s nx t x i).list.length->(prT m s nx t x i).list.length<=600->∃ k,lZ m s nx t x f i=(prT m s nx t x k,false)/\(prT m s nx t x k).list.length=k/\k<=600/\∀ j,j<k->j<(prT m s nx t x j).list.length
 | 0,i,h,_,_,_=>by simp [lZ] at h
 | f+1,i,h,hlt,hi,h60=>by
  unfold lZ at h ⊢
  by_cases h1:i<(prT m s nx t x i).list.length
  ·rw [if_pos h1] at h ⊢
   by_cases h2:600<(prT m s nx t x (i+1)).list.length
   ·rw [if_pos h2] at h;simp at h
   ·rw [if_neg h2] at h ⊢
    have h3:=YB (m:=m) (s:=s) (nx:=nx) (t:=t) (x:=x) (i:=i)
    exact wM f (i+1) h (fun j hj=>by
     by_cases e:j=i
     ·rw [e];exact h1
     ·exact hlt j (by omega)) (by omega) (by omega)
  ·rw [if_neg h1]
   exact ⟨i,rfl,by omega,by omega,hlt⟩
structure jh (m s:List (List Int)) (g:PrT):Prop where
 prob:aO m s=true
 pos:0<g.list.length
 le:g.list.length<=600
 rlen:g.rows.length=g.list.length
 row:∀ j,j<g.rows.length->(g.rows.getD j []).length=s.length
 eg:∀ j,j<g.rows.length->∀ c∈g.rows.getD j [],MX g.list.length j c
 two:∀ p∈g.list,p.length=2
theorem YC {m s nx:List (List Int)} {x:Nat} (hp:aO m s=true) (ha:pY m s nx=true) (hx:x<m.length) (h:(pr m s nx x).2=false):jh m s (pr m s nx x).1:=by
 unfold pr at h ⊢
 cases ho:(gV m s x).2
 ·rw [ho] at h
  simp only [cond_false] at h ⊢
  have ht:=uf hp hx ho
  obtain ⟨k,h1,h2,h3,h4⟩:=wM 1000 0 h (fun j hj=>by omega) (Nat.zero_le _) (by simp [prT])
  rw [h1]
  have hok:=DZ ht hp ha hx k h4
  have hrl:=hok.rlen
  exact ⟨hp,hok.pos,by show (prT _ _ _ _ _ _).list.length<=600;omega,by rw [hrl];exact h2.symm,fun j hj=>hok.row j (by rw [← hrl];exact hj),fun j hj=>hok.eg j (by rw [← hrl];exact hj),fun p hp=>by obtain ⟨_,_,rfl,_⟩:=hok.el p hp;rfl⟩
 ·rw [ho] at h
  simp at h
def c3 (c:List Int):List Int:=[c.getD 1 0,c.getD 2 0,c.getD 3 0]
def eg3 (rows:List (List (List Int))):List (List (List Int)):=rows.map fun r=>r.map c3
end Go.Proofs.YtkcelmnbfbehbaaGreat
namespace Go.Proofs.YtkcelmnbfbehbaaGreat
open Go Go.RowKit Am
def prQ (m s nx:List (List Int)) (x:Int):PrT×Bool:=bif bn m s x [] && pY m s nx then pr m s nx x.toNat else (⟨[],[]⟩,true)
abbrev egs (rows:List (List (List Int))):List (List Int):=rows.flatten
def prO (n:Nat) (q:PrT×Bool):List Ob:=bif q.2 then [] else [.box [.own 1,.own 2,.b (.val (.int .i64 n))],.row 145 (.k 2 q.1.list),.row 86 (.k 4 (egs q.1.rows))]
def prR (q:PrT×Bool):AV:=bif q.2 then .tup [.one (.b (.val (.pointer none))),.one (.b (.val (.bool false)))] else .tup [.one (.ptr 0 0),.one (.b (.val (.bool true)))]
theorem qJ {c:Nat}:∀ {rows:List (List (List Int))},(∀ j,j<rows.length->(rows.getD j []).length=c)->(egs rows).length=rows.length*c
 | [],_=>by simp
 | r::rows,h=>by
  have h1:=h 0 (by simp)
  have h2:=qJ (rows:=rows) fun j hj=>by have:=h (j+1) (by simpa using hj);simpa using this
  have h1:r.length=c:=h1
  have h2:rows.flatten.length=rows.length*c:=h2
  show (r::rows).flatten.length=_
  rw [List.flatten_cons,List.length_append,List.length_cons,Nat.succ_mul]
  omega
theorem Rx {m s nx:List (List Int)} {t:bW} {g:PrT} {i:Nat} (h:Sz m s t g i):(egs g.rows).length=i*s.length:=by
 have h1:=h.rlen
 rw [qJ (c:=s.length) fun j hj=>h.row j (by omega),h1]
set_option maxHeartbeats 2000000 in
theorem Gn (m s nx:List (List Int)) (x:Int):bG Tryz.prog 70 [prA m s,.sl (.ii nx),.int x] [] [] (prR (prQ m s nx x)) (prO s.length (prQ m s nx x)):=by
 refine bY Tryz.func70 rfl Tryz.ntmps70 aX (fun _ _=>by kernel_rfl) rfl rfl rfl ?_
 intro M0 w0 S φ0
 rw [Tryz.results70]
 (refine dJ 1 rfl fun hfn =>?_;simp only [xp,simprocAttr] at hfn;simp only [xf,simprocAttr] at hfn)
 refine ah ?_
 ((try refine Or.inl ?_);refine ⟨_,(lC _ _ _),.inl rfl,?_⟩;refine amC ?_)
 refine ah ?_
 ((try refine Or.inl ?_);refine ⟨_,(fun h=>EO m s nx (eG (iK (by simpa using h)).1)),.inl rfl,?_⟩;refine amC ?_)
 refine ah ?_
 cases hc':(bn m s x [] && pY m s nx)
 ·have hq:prQ m s nx x=(⟨[],[]⟩,true):=by unfold prQ;rw [hc'];rfl
  rw [hq]
  refine aj amQ (fun hc =>?_) (fun hc =>?_)
  ·refine ah ?_
   (simp only [aG,aN];refine kM (vs:=[_,_]) [] rfl trivial rfl rfl rfl rfl ⟨rfl,rfl,trivial⟩ ?_;try rfl)
  ·exfalso
   revert hc hc'
   cases bn m s x []<;>cases pY m s nx<;>decide
 have hq:prQ m s nx x=pr m s nx x.toNat:=by unfold prQ;rw [hc'];rfl
 rw [hq]
 rw [Bool.and_eq_true] at hc'
 obtain ⟨hk,ha⟩:=hc'
 obtain ⟨hp,⟨y,rfl,hy⟩,-,-⟩:=iK hk
 rw [Int.toNat_natCast]
 rw [hk,ha]
 refine aj amQ (fun hc =>?_) (fun hc =>?_)
 ·cases hc
 have hl:=aQ hp
 refine ah ?_
 cases ho:(gV m s y).2
 ·((try refine Or.inl ?_);refine ⟨_,(Gl hp hy ho),amF,?_⟩;refine amC ?_)
  have ht:=uf hp hy ho
  have hg0:pr m s nx y=lZ m s nx (gV m s y).1 y 1000 0:=by unfold pr;rw [ho];rfl
  rw [hg0]
  generalize (gV m s y).1=t at ht ho
  refine ah ?_
  refine aj amQ (fun hd =>?_) (fun hd =>?_)
  ·cases hd
  (refine amB ?_;refine kZ [false,false,true] ?_;refine amN ?_)
  (refine iZ 2 1 86 (.k 4 []) rfl rfl rfl (by first | trivial | (intro _ h;cases h)) ?_;simp only [xr,simprocAttr])
  refine ah ?_
  refine au (α:=Nat) (fun i=>[(13,true,.int i)]) [1,3,9,10,12] (fun i=>[.box [.b (.sl (.ii m)),.b (.sl (.ii s))],.row 145 (.k 2 (prT m s nx t y i).list),.box [.own 1,.own 3,.b (.val (.int .i64 s.length))],.row 86 (.k 4 (egs (prT m s nx t y i).rows))]) (PrI m s nx t y) (fun i=>601-i) 0 (by exact aV) (PrI.first m s nx t y) fun i hi =>?_
  have hile:=hi.le
  have hlen:=hi.len
  have hok:=DZ ht hp ha hy i hi.lt
  have hrl:=hok.rlen
  have hel:=Rx (nx:=nx) hok
  have hmul0:i*s.length<=600*4:=Nat.mul_le_mul (by omega) (by omega)
  simp only [xr,simprocAttr]
  refine ah ?_
  refine aj amQ (fun he =>?_) (fun he =>?_)
  ·have he:=of_decide_eq_true he
   have hlt:i<(prT m s nx t y i).list.length:=by omega
   obtain ⟨st,w,hpos,hst,hof,hsl,hwl⟩:=Qc hok hlt
   have htl:=ht.nlen
   have htg:=ht.glen
   refine ah ?_
   rw [hpos]
   simp only [xr,simprocAttr]
   refine ah ?_
   refine au (α:=Nat) (fun r=>[(76,true,.int r)]) [1,3,9,10,12,13,14,15,75] (fun r=>[.box [.b (.sl (.ii m)),.b (.sl (.ii s))],.row 145 (.k 2 (aS m s nx t i st w (prT m s nx t y i).list r).1),.box [.own 1,.own 3,.b (.val (.int .i64 s.length))],.row 86 (.k 4 (egs (prT m s nx t y i).rows++(aS m s nx t i st w (prT m s nx t y i).list r).2))]) (fun r=>r<=s.length) (fun r=>s.length-r) 0 (by exact bI (by simp [aS])) (Nat.zero_le _) fun r hr =>?_
   have hal:=mY m s nx t i st w (prT m s nx t y i).list r
   have ham:=uN ht ha hsl hwl hok.el (i:=i) r hr
   have hell:(egs (prT m s nx t y i).rows++(aS m s nx t i st w (prT m s nx t y i).list r).2).length<=3000:=by rw [List.length_append];omega
   have hrm:∀ p∈(aS m s nx t i st w (prT m s nx t y i).list r).1,p.length=2:=fun p hp=>Bg (ham p hp)
   simp only [xr,simprocAttr]
   refine ah ?_
   refine aj amQ (fun hd =>?_) (fun hd =>?_)
   ·have hd:=of_decide_eq_true hd
    have hr':r<s.length:=by omega
    have htw:=ht.row w hwl
    have hat:=GY ha hsl hr'
    obtain ⟨z,hz1,hz2,hz3⟩:=P6 ha hsl hr'
    have hz0:(nx.getD st []).getD r 0=(z:Int):=hz1
    have hnl:=hat.len
    have hnr:=hat.row
    refine ah ?_
    rw [hz0]
    refine ah ?_
    ((try refine Or.inl ?_);refine ⟨_,(Kq _ _ _ hrm),.inl rfl,?_⟩;refine amC ?_)
    refine ah ?_
    have hkg:fO t w r (nxS nx st r)=[(z:Int),(t.next.getD w []).getD r 0]:=by unfold fO;rw [hz1]
    refine aj amQ (fun hg =>?_) (fun hg =>?_)
    ·have hg:eF (aS m s nx t i st w (prT m s nx t y i).list r).1 [(z:Int),(t.next.getD w []).getD r 0]<0:=of_decide_eq_true hg
     have h1:jP (aS m s nx t i st w (prT m s nx t y i).list r).1 (fO t w r (nxS nx st r))=(aS m s nx t i st w (prT m s nx t y i).list r).1++[fO t w r (nxS nx st r)]:=if_pos (by rw [hkg];exact hg)
     have h2:oD (aS m s nx t i st w (prT m s nx t y i).list r).1 (fO t w r (nxS nx st r))=((aS m s nx t i st w (prT m s nx t y i).list r).1.length:Int):=if_pos (by rw [hkg];exact hg)
     refine ah ?_
     (refine amB ?_;refine fF [1,2] 7 [4] (by kernel_rfl) (by kernel_rfl) (by kernel_rfl) (by kernel_rfl) (by kernel_rfl) ?_;refine amM ?_)
     refine amB ?_
     (refine jJ 1 5 rfl rfl (by decide) rfl rfl ?_;simp only [xm,simprocAttr])
     refine ah ?_
     (refine amB ?_;refine fF [2,3] 21 [4] (by kernel_rfl) (by kernel_rfl) (by kernel_rfl) (by kernel_rfl) (by kernel_rfl) ?_;refine amM ?_)
     ((try refine Or.inl ?_);refine ⟨_,(vU m s st z r _ _ _ rfl rfl rfl hp hsl hz2 hr'),.inl rfl,?_⟩;refine amC ?_)
     refine amB ?_
     (refine jJ 3 6 rfl rfl (by decide) rfl rfl ?_;simp only [xm,simprocAttr])
     refine ah ?_
     refine ⟨r+1,by omega,by omega,.inr ⟨4,Nat.le_of_ble_eq_true rfl,aJ ?_ rfl rfl rfl⟩⟩
     exact bI (by simp only [aS,h1,egG,h2];simp only [jg,lu,hz1,fO,Int.toNat_natCast,← List.append_assoc];rfl)
    ·have hg:¬ eF (aS m s nx t i st w (prT m s nx t y i).list r).1 [(z:Int),(t.next.getD w []).getD r 0]<0:=of_decide_eq_false hg
     have h1:jP (aS m s nx t i st w (prT m s nx t y i).list r).1 (fO t w r (nxS nx st r))=(aS m s nx t i st w (prT m s nx t y i).list r).1:=if_neg (by rw [hkg];exact hg)
     have h2:oD (aS m s nx t i st w (prT m s nx t y i).list r).1 (fO t w r (nxS nx st r))=eF (aS m s nx t i st w (prT m s nx t y i).list r).1 (fO t w r (nxS nx st r)):=if_neg (by rw [hkg];exact hg)
     refine ah ?_
     (refine amB ?_;refine fF [2,3] 21 [4] (by kernel_rfl) (by kernel_rfl) (by kernel_rfl) (by kernel_rfl) (by kernel_rfl) ?_;refine amM ?_)
     ((try refine Or.inl ?_);refine ⟨_,(vU m s st z r _ _ _ rfl rfl rfl hp hsl hz2 hr'),.inl rfl,?_⟩;refine amC ?_)
     refine amB ?_
     (refine jJ 3 5 rfl rfl (by decide) rfl rfl ?_;simp only [xm,simprocAttr])
     refine ah ?_
     refine ⟨r+1,by omega,by omega,.inr ⟨4,Nat.le_of_ble_eq_true rfl,aJ ?_ rfl rfl rfl⟩⟩
     exact bI (by simp only [aS,h1,egG,h2];simp only [jg,lu,hz1,fO,Int.toNat_natCast,← List.append_assoc];rfl)
   ·have hd:=of_decide_eq_false hd
    have hr':r=s.length:=by omega
    subst hr'
    refine ah ?_
    refine aj amQ (fun hg =>?_) (fun hg =>?_)
    ·have hg:=of_decide_eq_true hg
     have hbig:600<(prT m s nx t y (i+1)).list.length:=by simp only [prT,hst,hof];omega
     rw [hi.large hlt hbig]
     refine ah ?_
     (simp only [aG,aN];refine kM (vs:=[_,_]) [] rfl trivial rfl rfl rfl rfl ⟨rfl,rfl,trivial⟩ ?_;try rfl)
    ·have hg:=of_decide_eq_false hg
     have hbig:¬ 600<(prT m s nx t y (i+1)).list.length:=by simp only [prT,hst,hof];omega
     refine ah ?_
     refine ⟨i+1,hi.nxt hlt hbig,by omega,.inr ⟨4,Nat.le_of_ble_eq_true rfl,aJ ?_ rfl rfl rfl⟩⟩
     exact bI (by simp only [prT,hst,hof,List.flatten_append,List.flatten_cons,List.flatten_nil,List.append_nil];rfl)
  ·have he:=of_decide_eq_false he
   rw [hi.done (by omega)]
   refine ah ?_
   (simp only [aG,aN];refine kM (vs:=[_,_]) [2,1,3] rfl ⟨rfl,rfl,rfl,trivial⟩ rfl rfl rfl rfl ⟨rfl,rfl,trivial⟩ ?_;try rfl)
 ·((try refine Or.inl ?_);refine ⟨_,(Gi hp hy ho),amF,?_⟩;refine amC ?_)
  have hq2:pr m s nx y=(⟨[[(y:Int),0]],[]⟩,true):=by unfold pr;rw [ho];rfl
  rw [hq2]
  refine ah ?_
  refine aj amQ (fun hd =>?_) (fun hd =>?_)
  ·refine ah ?_
   (simp only [aG,aN];refine kM (vs:=[_,_]) [] rfl trivial rfl rfl rfl rfl ⟨rfl,rfl,trivial⟩ ?_;try rfl)
  ·cases hd
def adD (q:PrT×Bool):TV := .agg [.b (.sl (.k 2 q.1.list)),.b (.sl (.ki 3 (eg3 q.1.rows))),.b (.val (.bool q.2))]
set_option maxHeartbeats 2000000 in
theorem Ve (m s nx:List (List Int)) (y:Nat) (hp:aO m s=true) (ha:pY m s nx=true) (hy:y<m.length):Does Tryz.prog 77 [prA m s,.sl (.ii nx),.int y] (.imm (.tv (adD (pr m s nx y)))):=by
 have hl:=aQ hp
 refine aC Tryz.func77 rfl Tryz.ntmps77 aX (fun _ _=>by kernel_rfl) rfl (Nat.le_of_ble_eq_true rfl) ?_
 intro M0 w0
 rw [Tryz.results77]
 refine ah ?_
 cases ho:(gV m s y).2
 ·have ht:=uf hp hy ho
  have hc:=AX m s y hp hy
  unfold jk at hc
  rw [ho] at hc
  have hg0:pr m s nx y=lZ m s nx (gV m s y).1 y 1000 0:=by unfold pr;rw [ho];rfl
  rw [hg0]
  generalize (gV m s y).1=t at ht hc
  ((try refine Or.inl ?_);refine ⟨_,hc,amF,?_⟩;refine amC ?_)
  (refine amB ?_;refine kZ [false,false,true] ?_;refine amN ?_)
  (refine iZ 4 1 179 (.ki 3 []) rfl rfl rfl (by first | trivial | (intro _ h;cases h)) ?_;simp only [xr,simprocAttr])
  refine ah ?_
  refine au (α:=Nat×Bool) (fun p=>[(9,true,.int p.1)]) [1,3,6,7,8] (fun p=>[.box [.b (.sl (.ii m)),.b (.sl (.ii s))],.box [.b (.val (.slice none 0 0)),.b (.val (.slice none 0 0)),.b (.val (.bool false))],.box [.b (.sl (.ii t.list)),.b (.sl (.ii t.next)),.b (.sl (.ii t.grows)),.b (.val (.bool false))],.row 145 (.k 2 (prT m s nx t y p.1).list),.box [.own 3,.own 5,.b (.val (.bool p.2))],.row 179 (.ki 3 (eg3 (prT m s nx t y p.1).rows))]) (fun p=>(p.2=false/\PrI m s nx t y p.1)\/(p.2=true/\p.1<=601/\lZ m s nx t y 1000 0=(prT m s nx t y p.1,true))) (fun p=>602-p.1) (0,false) (by exact aV) (.inl ⟨rfl,PrI.first m s nx t y⟩) fun p hi =>?_
  obtain ⟨i,bad⟩:=p
  rcases hi with ⟨hb,hi⟩ | ⟨hb,hb1,hb2⟩
  ·simp only at hb hi
   subst hb
   have hile:=hi.le
   have hlen:=hi.len
   have hok:=DZ ht hp ha hy i hi.lt
   have hrl:=hok.rlen
   have hrl3:(eg3 (prT m s nx t y i).rows).length=i:=by simp [eg3,hrl]
   simp only [xr,simprocAttr]
   refine ah ?_
   refine aj amQ (fun he =>?_) (fun he =>?_)
   ·have hlt:i<(prT m s nx t y i).list.length:=by
     by_cases h:(i:Int)<(prT m s nx t y i).list.length
     ·omega
     ·rw [decide_eq_false h] at he;cases he
    obtain ⟨st,w,hpos,hst,hof,hsl,hwl⟩:=Qc hok hlt
    have htl:=ht.nlen
    have htg:=ht.glen
    have hms:=iH hp hsl
    refine ah ?_
    rw [hpos]
    simp only [xr,simprocAttr]
    refine ah ?_
    refine au (α:=Nat) (fun r=>[(13,true,.int r)]) [1,3,6,7,8,9,10,11,12] (fun r=>[.box [.b (.sl (.ii m)),.b (.sl (.ii s))],.box [.b (.val (.slice none 0 0)),.b (.val (.slice none 0 0)),.b (.val (.bool false))],.box [.b (.sl (.ii t.list)),.b (.sl (.ii t.next)),.b (.sl (.ii t.grows)),.b (.val (.bool false))],.row 145 (.k 2 (aS m s nx t i st w (prT m s nx t y i).list r).1),.box [.own 3,.own 5,.b (.val (.bool false))],.row 179 (.ki 3 (eg3 (prT m s nx t y i).rows)),.row 181 (.k 3 ((aS m s nx t i st w (prT m s nx t y i).list r).2.map c3))]) (fun r=>r<=s.length) (fun r=>s.length-r) 0 (by exact aV) (Nat.zero_le _) fun r hr =>?_
    have hal:=mY m s nx t i st w (prT m s nx t y i).list r
    have ham:=uN ht ha hsl hwl hok.el (i:=i) r hr
    have hal3:((aS m s nx t i st w (prT m s nx t y i).list r).2.map c3).length=r:=by rw [List.length_map,hal.2.2]
    have hrm:∀ p∈(aS m s nx t i st w (prT m s nx t y i).list r).1,p.length=2:=fun p hp=>Bg (ham p hp)
    simp only [xr,simprocAttr]
    refine ah ?_
    refine aj amQ (fun hd =>?_) (fun hd =>?_)
    ·have hd:=of_decide_eq_true hd
     have hr':r<s.length:=by omega
     have htw:=ht.row w hwl
     have hat:=GY ha hsl hr'
     obtain ⟨z,hz1,hz2,hz3⟩:=P6 ha hsl hr'
     have hz0:(nx.getD st []).getD r 0=(z:Int):=hz1
     have hnl:=hat.len
     have hnr:=hat.row
     have hrow:=eG hp r hr'
     have hmu:=hms.2 z hz2
     have hsu:=qW hp hr' z hz2
     unfold at2 at hmu hsu
     have hkg:fO t w r (nxS nx st r)=[(z:Int),(t.next.getD w []).getD r 0]:=by unfold fO;rw [hz1]
     refine ah ?_
     rw [hz0]
     refine ah ?_
     refine au (α:=Nat) (fun k=>[(16,true,.int k)]) [1,3,6,7,8,9,10,11,12,13,14,15] (fun _=>[.box [.b (.sl (.ii m)),.b (.sl (.ii s))],.box [.b (.val (.slice none 0 0)),.b (.val (.slice none 0 0)),.b (.val (.bool false))],.box [.b (.sl (.ii t.list)),.b (.sl (.ii t.next)),.b (.sl (.ii t.grows)),.b (.val (.bool false))],.row 145 (.k 2 (aS m s nx t i st w (prT m s nx t y i).list r).1),.box [.own 3,.own 5,.b (.val (.bool false))],.row 179 (.ki 3 (eg3 (prT m s nx t y i).rows)),.row 181 (.k 3 ((aS m s nx t i st w (prT m s nx t y i).list r).2.map c3)),.box [.b (.val (.int .i64 z)),.b (.val (.int .i64 ((t.next.getD w []).getD r 0)))]]) (fun k=>k<=(aS m s nx t i st w (prT m s nx t y i).list r).1.length/\∀ x∈(aS m s nx t i st w (prT m s nx t y i).list r).1.take k,decide (x=[(z:Int),(t.next.getD w []).getD r 0])=false) (fun k=>(aS m s nx t i st w (prT m s nx t y i).list r).1.length-k) 0 (by exact aV) ⟨Nat.zero_le _,by simp⟩ fun k hk =>?_
     obtain ⟨hk,hno⟩:=hk
     simp only [xr,simprocAttr]
     refine ah ?_
     refine aj amQ (fun hf =>?_) (fun hf =>?_)
     ·have hk':k<(aS m s nx t i st w (prT m s nx t y i).list r).1.length:=by
       by_cases h:(k:Int)<(aS m s nx t i st w (prT m s nx t y i).list r).1.length
       ·omega
       ·rw [decide_eq_false h] at hf;cases hf
      rw [decide_eq_true (show (k:Int)<(aS m s nx t i st w (prT m s nx t y i).list r).1.length by omega),Ew hrm hk'] at hf
      have hd2:decide ((aS m s nx t i st w (prT m s nx t y i).list r).1[k]=[(z:Int),(t.next.getD w []).getD r 0])=false:=by simpa using hf
      refine ah ?_
      refine ⟨k+1,by omega,fun x hx' =>?_,by omega,.inl ?_⟩
      ·rw [List.take_succ_eq_append_getElem hk',List.mem_append,List.mem_singleton] at hx'
       rcases hx' with hx' | rfl
       ·exact hno x hx'
       ·exact hd2
      ·exact aV
     ·have hwk:oD (aS m s nx t i st w (prT m s nx t y i).list r).1 (fO t w r (nxS nx st r))=(k:Int):=by
       rw [hkg]
       by_cases h:k<(aS m s nx t i st w (prT m s nx t y i).list r).1.length
       ·rw [decide_eq_true (show (k:Int)<(aS m s nx t i st w (prT m s nx t y i).list r).1.length by omega),Ew hrm h] at hf
        have hd2:decide ((aS m s nx t i st w (prT m s nx t y i).list r).1[k]=[(z:Int),(t.next.getD w []).getD r 0])=true:=by simpa using hf
        have e:eF (aS m s nx t i st w (prT m s nx t y i).list r).1 [(z:Int),(t.next.getD w []).getD r 0]=k:=fZ h hd2 hno
        unfold oD
        rw [e,if_neg (by omega)]
       ·obtain rfl:k=(aS m s nx t i st w (prT m s nx t y i).list r).1.length:=by omega
        rw [List.take_length] at hno
        have e:eF (aS m s nx t i st w (prT m s nx t y i).list r).1 [(z:Int),(t.next.getD w []).getD r 0] = -1:=gW hno
        unfold oD
        rw [e,if_pos (by omega)]
      refine ah ?_
      refine aj amQ (fun hg =>?_) (fun hg =>?_)
      ·have hg:=of_decide_eq_true hg
       have hw0:eF (aS m s nx t i st w (prT m s nx t y i).list r).1 (fO t w r (nxS nx st r))<0:=yC.1 (by rw [hwk];exact hg)
       have h1:jP (aS m s nx t i st w (prT m s nx t y i).list r).1 (fO t w r (nxS nx st r))=(aS m s nx t i st w (prT m s nx t y i).list r).1++[fO t w r (nxS nx st r)]:=if_pos hw0
       refine ah ?_
       (refine amB ?_;refine fF [6] 29 [] (by kernel_rfl) (by kernel_rfl) (by kernel_rfl) (by kernel_rfl) (by kernel_rfl) ?_;refine amM ?_)
       refine amB ?_
       (refine jJ 6 8 rfl rfl (by decide) rfl rfl ?_;simp only [xm,simprocAttr])
       refine ah ?_
       refine ⟨r+1,by omega,by omega,.inr ⟨7,Nat.le_of_ble_eq_true rfl,aJ ?_ rfl rfl rfl⟩⟩
       exact bI (by simp only [aS,h1,List.map_append,egG];have hwk2:=hwk;rw [hkg] at hwk2;simp only [hkg,hwk2];simp only [hz1,jg,Int.toNat_natCast];rfl)
      ·have hg:=of_decide_eq_false hg
       have hw0:¬ eF (aS m s nx t i st w (prT m s nx t y i).list r).1 (fO t w r (nxS nx st r))<0:=fun h=>hg (by rw [← hwk];exact yC.2 h)
       have h1:jP (aS m s nx t i st w (prT m s nx t y i).list r).1 (fO t w r (nxS nx st r))=(aS m s nx t i st w (prT m s nx t y i).list r).1:=if_neg hw0
       refine ah ?_
       (refine amB ?_;refine fF [6] 29 [] (by kernel_rfl) (by kernel_rfl) (by kernel_rfl) (by kernel_rfl) (by kernel_rfl) ?_;refine amM ?_)
       refine amB ?_
       (refine jJ 6 8 rfl rfl (by decide) rfl rfl ?_;simp only [xm,simprocAttr])
       refine ah ?_
       refine ⟨r+1,by omega,by omega,.inr ⟨7,Nat.le_of_ble_eq_true rfl,aJ ?_ rfl rfl rfl⟩⟩
       exact bI (by simp only [aS,h1,List.map_append,egG];have hwk2:=hwk;rw [hkg] at hwk2;simp only [hkg,hwk2];simp only [hz1,jg,Int.toNat_natCast];rfl)
    ·have hd:=of_decide_eq_false hd
     have hr':r=s.length:=by omega
     subst hr'
     refine amB ?_
     (refine aU 6 rfl ?_;simp only [xz,simprocAttr])
     refine ah ?_
     have hgl:(prT m s nx t y (i+1)).list=(aS m s nx t i st w (prT m s nx t y i).list s.length).1:=by simp only [prT,hst,hof]
     by_cases hbig:600<(prT m s nx t y (i+1)).list.length
     ·have hdec:decide ((600:Int)<(aS m s nx t i st w (prT m s nx t y i).list s.length).1.length)=true:=decide_eq_true (by rw [← hgl];omega)
      rw [hdec]
      refine ⟨(i+1,true),.inr ⟨rfl,by omega,hi.large hlt hbig⟩,by simp only;omega,.inr ⟨6,Nat.le_of_ble_eq_true rfl,aJ ?_ rfl rfl rfl⟩⟩
      exact bI (by simp only [prT,hst,hof,eg3,List.map_append];rfl)
     ·have hdec:decide ((600:Int)<(aS m s nx t i st w (prT m s nx t y i).list s.length).1.length)=false:=decide_eq_false (by rw [← hgl];omega)
      rw [hdec]
      refine ⟨(i+1,false),.inl ⟨rfl,hi.nxt hlt hbig⟩,by simp only;omega,.inr ⟨6,Nat.le_of_ble_eq_true rfl,aJ ?_ rfl rfl rfl⟩⟩
      exact bI (by simp only [prT,hst,hof,eg3,List.map_append];rfl)
   ·have hnl:¬ i<(prT m s nx t y i).list.length:=fun h=>by
     rw [decide_eq_true (show (i:Int)<(prT m s nx t y i).list.length by omega)] at he;cases he
    rw [hi.done hnl]
    refine kY ?_
    (refine aU 3 rfl ?_;simp only [xz,simprocAttr])
    (refine aU 5 rfl ?_;simp only [xz,simprocAttr])
    refine ah ?_
    (simp only [xec,simprocAttr];refine ⟨_,⟨amK,rfl⟩,rfl,Imp.eq ?_⟩)
    rfl
  ·simp only at hb hb1 hb2
   subst hb
   rw [hb2]
   simp only [xr,simprocAttr]
   refine ah ?_
   refine aj amQ (fun he =>?_) (fun he =>?_)
   ·exfalso
    revert he
    cases decide ((i:Int)<(prT m s nx t y i).list.length)<;>decide
   ·refine kY ?_
    (refine aU 3 rfl ?_;simp only [xz,simprocAttr])
    (refine aU 5 rfl ?_;simp only [xz,simprocAttr])
    refine ah ?_
    (simp only [xec,simprocAttr];refine ⟨_,⟨amK,rfl⟩,rfl,Imp.eq ?_⟩)
    rfl
 ·have hc:=AX m s y hp hy
  unfold jk at hc
  rw [ho] at hc
  have hg0:pr m s nx y=(⟨[[(y:Int),0]],[]⟩,true):=by unfold pr;rw [ho];rfl
  rw [hg0]
  generalize (gV m s y).1=t at hc
  ((try refine Or.inl ?_);refine ⟨_,hc,amF,?_⟩;refine amC ?_)
  (refine amB ?_;refine kZ [false,false,true] ?_;refine amN ?_)
  (refine iZ 4 1 179 (.ki 3 []) rfl rfl rfl (by first | trivial | (intro _ h;cases h)) ?_;simp only [xr,simprocAttr])
  refine ah ?_
  refine au (α:=Nat) (fun _=>[(9,true,.int 0)]) [1,3,6,7,8] (fun _=>[.box [.b (.sl (.ii m)),.b (.sl (.ii s))],.box [.b (.val (.slice none 0 0)),.b (.val (.slice none 0 0)),.b (.val (.bool false))],.box [.b (.sl (.ii t.list)),.b (.sl (.ii t.next)),.b (.sl (.ii t.grows)),.b (.val (.bool true))],.row 145 (.k 2 [[(y:Int),0]]),.box [.own 3,.own 5,.b (.val (.bool true))],.row 179 (.ki 3 [])]) (fun _=>True) (fun i=>i) 0 (by exact dQ) trivial fun i _ =>?_
  simp only [xr,simprocAttr]
  refine ah ?_
  refine aj amQ (fun he =>?_) (fun he =>?_)
  ·cases he
  ·refine kY ?_
   (refine aU 3 rfl ?_;simp only [xz,simprocAttr])
   (refine aU 5 rfl ?_;simp only [xz,simprocAttr])
   refine ah ?_
   (simp only [xec,simprocAttr];refine ⟨_,⟨amK,rfl⟩,rfl,Imp.eq ?_⟩)
   rfl
theorem lJ {m s nx:List (List Int)} {x:Int} (h:(prQ m s nx x).2=false):jh m s (prQ m s nx x).1:=by
 unfold prQ at h ⊢
 cases hc:(bn m s x [] && pY m s nx)
 ·rw [hc] at h;cases h
 ·rw [hc] at h
  simp only [cond_true] at h ⊢
  rw [Bool.and_eq_true] at hc
  obtain ⟨hp,⟨y,rfl,hy⟩,-,-⟩:=iK hc.1
  rw [Int.toNat_natCast] at h ⊢
  exact YC hp hc.2 hy h
end Go.Proofs.YtkcelmnbfbehbaaGreat
