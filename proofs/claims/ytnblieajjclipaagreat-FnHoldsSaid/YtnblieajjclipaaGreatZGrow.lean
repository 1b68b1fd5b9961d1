/- Asks of games, on the machine. Conditions: games that are whole. -/
import Derived.Test.YtnblieajjclipaaGreatGCR
import Derived.Test.YtnblieajjclipaaGreatPR
set_option linter.all false
namespace Go.Proofs.YtnblieajjclipaaGreat
open Go Go.RowKit Am
theorem FD {m s:List (List Int)} {g:GmT} (hg:aU m s g) (asks:List Int):Does Tryz.prog 55 [gI g,.sl (.ints asks)] (.imm (.bool (iP s g asks))):=by
 have hle:=hg.le
 have hcl:=hg.clen
 have hpos:=hg.pos
 have h0:=hg.c.len 0 (by omega)
 have hpl:=bI hg.prob
 refine aF Tryz.func55 rfl Tryz.ntmps55 aQ (fun _ _=>by kernel_rfl) rfl (Nat.le_of_ble_eq_true rfl) ?_
 intro M0 w0
 rw [Tryz.results55]
 (refine bY 1 rfl fun hf =>?_;simp only [xp,simprocAttr] at hf;simp only [xf,simprocAttr] at hf)
 refine ah ?_
 rw [h0]
 ((try refine Or.inl ?_);refine ⟨_,(fun _=>Ce (s.length:Int) asks (by omega)),.inl rfl,?_⟩;refine amC ?_)
 refine ah ?_
 refine bJ ?_
 show AV.bool _=AV.bool _
 simp only [Bool.cond_false_right,xK]
 rfl
theorem Gi {m s:List (List Int)} {g:GmT} (hg:aU m s g) (b:Bool) (asks:List Int):Does Tryz.prog 69 [gA g b,.sl (.ints asks)] (.imm (.bool (iP s g asks))):=by
 have hle:=hg.le
 have hcl:=hg.clen
 have hpos:=hg.pos
 have h0:=hg.c.len 0 (by omega)
 have hpl:=bI hg.prob
 have hl4:(ch4 g.ch).length=g.ch.length:=by simp [ch4]
 have h4:=lJ (ch:=g.ch) (i:=0) (by omega)
 have h4l:((ch4 g.ch).getD 0 []).length=s.length:=by rw [h4,List.length_map,h0]
 refine aF Tryz.func69 rfl Tryz.ntmps69 aQ (fun _ _=>by kernel_rfl) rfl (Nat.le_of_ble_eq_true rfl) ?_
 intro M0 w0
 rw [Tryz.results69]
 (refine bY 1 rfl fun hf =>?_;simp only [xp,simprocAttr] at hf;simp only [xf,simprocAttr] at hf)
 refine ah ?_
 refine aA (α:=Nat) (fun k=>[(5,true,.int k)]) [1,2] (fun _=>[.box [.b (.sl (.k 2 g.list)),.b (.sl (.kii 4 (ch4 g.ch))),.b (.val (.bool b))]]) (fun k=>k<=asks.length/\allIn 0 ((s.length:Int)-1) (asks.take k)=true) (fun k=>asks.length-k) 0 (by exact bW) ⟨Nat.zero_le _,rfl⟩ fun k hk =>?_
 obtain ⟨hk,hal⟩:=hk
 simp only [xr,simprocAttr]
 refine ah ?_
 refine aj amQ (fun hc =>?_) (fun hc =>?_)
 ·have hc:=of_decide_eq_true hc
  have hk':k<asks.length:=by omega
  refine ah ?_
  rw [h4l]
  ((try refine Or.inl ?_);refine ⟨_,(Nw _ _ _),.inl rfl,?_⟩;refine amC ?_)
  refine ah ?_
  cases hx:rng (asks.getD k 0) 0 ((s.length:Int)-1)
  ·refine aj amQ (fun hd =>?_) (fun hd =>?_)
   ·refine ah ?_
    refine bJ ?_
    have h1:allIn 0 ((s.length:Int)-1) asks=false:=L8 hk' 0 hx
    unfold iP
    rw [h1,Bool.and_false]
   ·cases hd
  ·refine aj amQ (fun hd =>?_) (fun hd =>?_)
   ·cases hd
   ·refine ah ?_
    refine ⟨k+1,by omega,?_,by omega,.inl ?_⟩
    ·unfold allIn at hal ⊢
     rw [eU hk' 0,List.all_append,hal]
     simp only [List.all_cons,List.all_nil,hx]
     rfl
    ·exact bW
 ·have hc:=of_decide_eq_false hc
  have hk':k=asks.length:=by omega
  subst hk'
  rw [List.take_length] at hal
  refine ah ?_
  refine bJ ?_
  show AV.bool _=AV.bool _
  unfold iP
  rw [hal,Bool.and_true,xK]
theorem qo {m s:List (List Int)} {g:GmT} (hg:aU m s g) {asks:List Int} (h:iP s g asks=true) {i:Nat} (hi:i<asks.length):∃ r:Nat,asks.getD i 0=r/\i<g.ch.length/\r<(g.ch.getD i []).length:=by
 unfold iP at h
 rw [Bool.and_eq_true,beq_iff_eq,jS] at h
 have h1:=h.2 (asks.getD i 0) (by rw [getD_in hi];exact List.getElem_mem hi)
 have hcl:=hg.clen
 have h2:=hg.c.len i (by omega)
 exact ⟨(asks.getD i 0).toNat,by omega,by omega,by omega⟩
end Go.Proofs.YtnblieajjclipaaGreat
namespace Go.Proofs.YtnblieajjclipaaGreat
theorem Gw {m s:List (List Int)} {w:List Int} {l:List (List Int)} {r:Nat} {i:Nat} (h:i<(bV m s w l r).length):∀ d,(bV m s w l (r+d)).getD i []=(bV m s w l r).getD i []/\i<(bV m s w l (r+d)).length
 | 0=>⟨rfl,h⟩
 | d+1=>by
  obtain ⟨h1,h2⟩:=Gw h d
  have h3:=Jm (x:=iG m s w (r+d)) (d:=[]) h2
  have h4:=(wX (bV m s w l (r+d)) (iG m s w (r+d))).1
  exact ⟨h3.trans h1,by show i<(kT (bV m s w l (r+d)) (iG m s w (r+d))).length;omega⟩
theorem Yo {m s:List (List Int)} {w:List Int} {l:List (List Int)} {n r:Nat} (hr:r<n):∃ k:Nat,(zU m s w l n).getD r 0=k/\k<(bV m s w l n).length/\(bV m s w l n).getD k []=iG m s w r:=by
 obtain ⟨k,h1,h2,h3⟩:=BH (bV m s w l r) (iG m s w r) []
 have h4:=Gw (m:=m) (s:=s) (w:=w) (l:=l) (r:=r+1) (i:=k) h2 (n-(r+1))
 rw [show r+1+(n-(r+1))=n by omega] at h4
 refine ⟨k,?_,h4.2,h4.1.trans h3⟩
 rw [← h1]
 simp [zU,hr]
theorem VN {m s:List (List Int)} {w:List Int} {n r:Nat} (hr:r<n):(ou m s w n).getD r 0=iM m s w r:=by simp [ou,hr]
structure Tq (m s:List (List Int)) (t:dD) (i:Nat):Prop where
 nlen:t.next.length=i
 glen:t.grows.length=i
 at_:∀ j r,j<i->r<s.length->∃ k:Nat,(t.next.getD j []).getD r 0=k/\k<t.list.length/\t.list.getD k []=iG m s (t.list.getD j []) r/\(t.grows.getD j []).getD r 0=iM m s (t.list.getD j []) r
theorem NZ {m s:List (List Int)} {x:Nat}:∀ i,(∀ j,j<i->j<(aP m s x j).list.length)->Tq m s (aP m s x i) i
 | 0,_=>⟨rfl,rfl,fun j r hj=>by omega⟩
 | i+1,h=>by
  have ih:=NZ i fun j hj=>h j (by omega)
  have hi:=h i (by omega)
  generalize ht:aP m s x i=t at ih hi
  have hget:∀ k,k<t.list.length->(bV m s (t.list.getD i []) t.list s.length).getD k []=t.list.getD k []:=fun k hk=>sO hk s.length
  have hle:=(lD m s (t.list.getD i []) t.list s.length).1
  have e:aP m s x (i+1)=⟨bV m s (t.list.getD i []) t.list s.length,t.next++[zU m s (t.list.getD i []) t.list s.length],t.grows++[ou m s (t.list.getD i []) s.length]⟩:=by rw [← ht];rfl
  rw [e]
  refine ⟨by simp [ih.nlen],by simp [ih.glen],fun j r hj hr =>?_⟩
  by_cases hji:j<i
  ·obtain ⟨k,h1,h2,h3,h4⟩:=ih.at_ j r hji hr
   refine ⟨k,?_,?_,?_,?_⟩
   ·show ((t.next++[_]).getD j []).getD r 0=_
    rw [gU (by rw [ih.nlen];exact hji)]
    exact h1
   ·show k<(bV m s (t.list.getD i []) t.list s.length).length
    omega
   ·show (bV m s (t.list.getD i []) t.list s.length).getD k []=iG m s ((bV m s (t.list.getD i []) t.list s.length).getD j []) r
    rw [hget k h2,hget j (by omega)]
    exact h3
   ·show ((t.grows++[_]).getD j []).getD r 0=iM m s ((bV m s (t.list.getD i []) t.list s.length).getD j []) r
    rw [gU (by rw [ih.glen];exact hji),hget j (by omega)]
    exact h4
  ·obtain rfl:j=i:=by omega
   obtain ⟨k,h1,h2,h3⟩:=Yo (m:=m) (s:=s) (w:=t.list.getD j []) (l:=t.list) hr
   refine ⟨k,?_,h2,?_,?_⟩
   ·show ((t.next++[_]).getD j []).getD r 0=_
    rw [iI ih.nlen.symm]
    exact h1
   ·show (bV m s (t.list.getD j []) t.list s.length).getD k []=iG m s ((bV m s (t.list.getD j []) t.list s.length).getD j []) r
    rw [hget j hi]
    exact h3
   ·show ((t.grows++[_]).getD j []).getD r 0=iM m s ((bV m s (t.list.getD j []) t.list s.length).getD j []) r
    rw [iI ih.glen.symm,hget j hi]
    exact VN hr
theorem Gu {p:Nat->Bool} {f g:Nat->Int} {c:Int} (hc:0<=c):∀ n,(∀ y,y<n->p y=true->g y=f y+c/\f y+c<=1152921504606846976)->fB p g n=fB p f n+c\/(fB p f n=1152921504606846976/\fB p g n=1152921504606846976)
 | 0,_ => .inr ⟨rfl,rfl⟩
 | n+1,h=>by
  have ih:=Gu hc n fun y hy=>h y (by omega)
  simp only [fB]
  cases hp:p n with
  | false=>simpa using ih
  | true =>
   obtain ⟨h1,h2⟩:=h n (by omega) hp
   simp only [if_true]
   left
   rcases ih with ih | ⟨i1,i2⟩
   ·omega
   ·omega
theorem YO {m s:List (List Int)} {w w':List Int} {B c:Int} (hp:bg m s=true) (hw:jv m w B) (hB:B<=1000000) (hc:0<=c) (hc2:c<=1000000) (h:∀ y,y<m.length->w'.getD y 0=w.getD y 0+c) {r x:Nat} (hr:r<s.length) (hx:x<m.length):wAt m s w' r x=wAt m s w r x+c:=by
 have h1:=(Jf hp hw hB hr hx).2
 unfold wAt at h1 ⊢
 rcases Gu (p:=fun y=>decide (0<=at2 s r y)) (f:=lG m s w r x) (g:=lG m s w' r x) hc m.length (fun y hy hs=>by
  have h2:=QY hp hw hr hx hy (of_decide_eq_true hs)
  have h3:=h y hy
  unfold lG at h2 ⊢
  omega) with h4 | ⟨h4,h5⟩
 ·exact h4
 ·omega
theorem sJ {m s:List (List Int)} {w:List Int} {r x:Nat} (hx:x<m.length):(fJ m s w r).getD x 0=wAt m s w r x:=by
 unfold fJ
 rw [dN _ _ hx]
theorem BD {m s:List (List Int)} {w:List Int} {r x:Nat} (hx:x<m.length):(iG m s w r).getD x 0=wAt m s w r x-iM m s w r:=by
 unfold iG
 rw [yw (by rw [zQ];exact hx),sJ hx]
theorem wu {w w':List Int} {c:Int}:∀ k,(∀ y,y<=k->w'.getD y 0=w.getD y 0+c)->dn w' k=dn w k+c
 | 0,h=>h 0 (Nat.le_refl _)
 | k+1,h=>by
  have h1:=wu k fun y hy=>h y (by omega)
  have h2:=h (k+1) (Nat.le_refl _)
  simp only [dn]
  omega
theorem N7 {m s:List (List Int)} {w:List Int} {r:Nat} (hm:0<m.length):dn (iG m s w r) (m.length-1)=0:=by
 have h:=wu (w:=fJ m s w r) (w':=iG m s w r) (c := - iM m s w r) (m.length-1) fun y hy=>by rw [BD (by omega),sJ (by omega)];omega
 rw [h]
 unfold iM
 omega
def lW (t:dD) (rs:List Int):Nat:=rs.foldl (fun j r=>((t.next.getD j []).getD r.toNat 0).toNat) 0
def growS (t:dD):Nat->List Int->Int
 | _,[]=>0
 | j,r::rs=>(t.grows.getD j []).getD r.toNat 0+growS t (((t.next.getD j []).getD r.toNat 0).toNat) rs
theorem vX (t:dD):∀ (rs:List Int) (j:Nat) (r:Int),growS t j (rs++[r])=growS t j rs+(t.grows.getD (rs.foldl (fun j r=>((t.next.getD j []).getD r.toNat 0).toNat) j) []).getD r.toNat 0
 | [],j,r=>by simp [growS]
 | a::rs,j,r=>by
  rw [List.cons_append,growS,growS,vX t rs,Int.add_assoc]
  rfl
theorem G6 {m s:List (List Int)} {x:Nat} {t:dD} (hp:bg m s=true) (hx:x<m.length) (ht:Tq m s t t.list.length) (h0:0<t.list.length) (hf:t.list.getD 0 []=m.getD x []) (hgr:∀ w r,w<t.list.length->r<s.length->0<=(t.grows.getD w []).getD r 0/\(t.grows.getD w []).getD r 0<=119) (hz:dn (m.getD x []) (m.length-1)=0) (hel:∀ v∈t.list,jv m v 99) {rs:List Int} (hq:lX s.length rs) (hl:rs.length<=1000):∀ k,k<=rs.length ->
  lW t (rs.take k)<t.list.length/\0<=growS t 0 (rs.take k)/\growS t 0 (rs.take k)<=119*k/\dn (t.list.getD (lW t (rs.take k)) []) (m.length-1)=0/\∀ y,y<m.length->(tJ m s x (rs.take k)).getD y 0=(t.list.getD (lW t (rs.take k)) []).getD y 0+growS t 0 (rs.take k)
 | 0,_=>by
  refine ⟨h0,Int.le_refl _,by simp [growS],?_,fun y hy =>?_⟩
  ·show dn (t.list.getD 0 []) _=0
   rw [hf]
   exact hz
  ·show (m.getD x []).getD y 0=(t.list.getD 0 []).getD y 0+0
   rw [hf];omega
 | k+1,hk=>by
  obtain ⟨h1,h2,h3,h4,h5⟩:=G6 hp hx ht h0 hf hgr hz hel hq hl k (by omega)
  have hr1:=hq (rs.getD k 0) (by rw [getD_in (show k<rs.length by omega)];exact List.getElem_mem _)
  have hr:(rs.getD k 0).toNat<s.length:=by omega
  obtain ⟨k',q1,q2,q3,q4⟩:=ht.at_ _ _ h1 hr
  have q5:=hgr _ _ h1 hr
  have hw:=hel _ (show t.list.getD (lW t (rs.take k)) []∈t.list by rw [getD_in h1];exact List.getElem_mem _)
  have e1:lW t (rs.take (k+1))=k':=by
   unfold lW
   rw [eU (show k<rs.length by omega) 0,List.foldl_append]
   show ((t.next.getD (lW t (rs.take k)) []).getD (rs.getD k 0).toNat 0).toNat=k'
   rw [q1]
   rfl
  have e2:growS t 0 (rs.take (k+1))=growS t 0 (rs.take k)+(t.grows.getD (lW t (rs.take k)) []).getD (rs.getD k 0).toNat 0:=by
   rw [eU (show k<rs.length by omega) 0,vX]
   rfl
  rw [e1,e2]
  refine ⟨q2,by omega,by omega,?_,fun y hy =>?_⟩
  ·rw [q3]
   exact N7 (by omega)
  ·rw [wW (by omega),sJ hy,YO hp hw (by omega) h2 (by omega) h5 hr hy,q3,BD hy]
   omega
theorem VY {m s:List (List Int)} {x:Nat} {t:dD} (hp:bg m s=true) (hx:x<m.length) (ht:Tq m s t t.list.length) (h0:0<t.list.length) (hf:t.list.getD 0 []=m.getD x []) (hgr:∀ w r,w<t.list.length->r<s.length->0<=(t.grows.getD w []).getD r 0/\(t.grows.getD w []).getD r 0<=119) (hz:dn (m.getD x []) (m.length-1)=0) (hel:∀ v∈t.list,jv m v 99) {rs:List Int} (hq:lX s.length rs) (hl:rs.length<=1000):IC m s x rs=growS t 0 rs:=by
 have h:=G6 hp hx ht h0 hf hgr hz hel hq hl rs.length (Nat.le_refl _)
 rw [List.take_length] at h
 obtain ⟨h1,h2,h3,h4,h5⟩:=h
 unfold IC
 rw [wu (m.length-1) fun y hy=>h5 y (by omega),h4]
 omega
end Go.Proofs.YtnblieajjclipaaGreat
namespace Go.Proofs.YtnblieajjclipaaGreat
open Go Go.RowKit Am
end Go.Proofs.YtnblieajjclipaaGreat
