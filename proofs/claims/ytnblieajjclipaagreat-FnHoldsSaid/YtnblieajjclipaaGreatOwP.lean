/- The least debts and delays of asks: that there are such, and that rounds over all positions reach them. Plain laws. Conditions: games that are whole, asks that leave the adversary's cycles alone. -/
import Derived.Test.YtnblieajjclipaaGreatRG3
set_option linter.all false
namespace Go.Proofs.YtnblieajjclipaaGreat
theorem Xz {m s:List (List Int)} {g:GmT} (hf:aU m s g) {a b:Int} (hn:0<=a/\a<=5000000000) (hd:0<=b/\b<=5000000000) {qs:List Int} (ha:rF s g.list.length qs) (hno:¬ Keep g.list.length (uK s.length (jf g.list.length s.length qs g.list.length)) (gmE g a b)) {v:Nat} {es:List (List Int)} (hw:Wk (edQ g qs g.list.length) v es v) (hl:0<es.length):0<aN (wtR a b) es:=by
 rcases Ii hf hn hd (jf g.list.length s.length qs g.list.length) with h | ⟨W,hW⟩
 ·exact absurd h hno
 refine BU (V:=W) (N:=(g.list.length:Int)+1) (by omega) (fun e he =>?_) hw hl
 obtain ⟨i,r,k,hi,har,hr,hk,rfl,t,u,x,y,hce,ht,_⟩:=Pz hf ha he
 obtain ⟨_,r',hr',h2⟩:=hW i hi
 have hrr:r'=r:=by
  have h3:=hr'.2
  rw [yA hi,if_pos hi,har,Int.toNat_natCast] at h3
  exact (IX.1 h3).2
 subst hrr
 have h4:=h2 _ _ ⟨k,hk,rfl,rfl⟩
 have e1:efr (ed4 (((g.ch.getD i []).getD r' []).getD k []))=i:=by rw [hce];unfold efr ed4;simp
 have e2:eto (ed4 (((g.ch.getD i []).getD r' []).getD k []))=toC (((g.ch.getD i []).getD r' []).getD k []):=rfl
 have e3:wtR a b (ed4 (((g.ch.getD i []).getD r' []).getD k []))=aW a b (((g.ch.getD i []).getD r' []).getD k []):=rfl
 rw [e1,e2,e3]
 omega
def iK (n:Nat) (a b:Int):Bool->List Int->Int
 | false,c => -aW a b c
 | true,c=>(n:Int)*(-aW a b c-c.getD 3 0)+1
def KR (n:Nat) (a b:Int):Bool->List Int->Int
 | false,e => -wtR a b e
 | true,e=>(n:Int)*(-wtR a b e-e.getD 3 0)+1
theorem Yc (n:Nat) (a b:Int) (d:Bool) (c:List Int):KR n a b d (ed4 c)=iK n a b d c:=by cases d<;>rfl
theorem LV (n:Nat) (a b:Int):∀ es,aN (KR n a b false) es = -aN (wtR a b) es
 | []=>rfl
 | e::es=>by
  show -wtR a b e+aN (KR n a b false) es = -(wtR a b e+aN (wtR a b) es)
  rw [LV n a b es]
  omega
theorem LW (n:Nat) (a b:Int):∀ es,aN (KR n a b true) es=(n:Int)*(-aN (wtR a b) es-aN dS es)+es.length
 | []=>by simp [aN]
 | e::es=>by
  show (n:Int)*(-wtR a b e-e.getD 3 0)+1+aN (KR n a b true) es=(n:Int)*(-(wtR a b e+aN (wtR a b) es)-(e.getD 3 0+aN dS es))+((e::es).length:Int)
  rw [LW n a b es,List.length_cons]
  have e1:(n:Int)*(-(wtR a b e+aN (wtR a b) es)-(e.getD 3 0+aN dS es))=(n:Int)*(-wtR a b e-e.getD 3 0)+(n:Int)*(-aN (wtR a b) es-aN dS es):=by rw [← Int.mul_add];congr 1;omega
  rw [e1]
  omega
abbrev jM (n:Nat):Int:=(n:Int)*1000+1
theorem Yt {m s:List (List Int)} {g:GmT} (hf:aU m s g) {a b:Int} (hn:1<=a/\a<=71400) (hd:1<=b/\b<=71400) {qs:List Int} (ha:rF s g.list.length qs) (hno:¬ Keep g.list.length (uK s.length (jf g.list.length s.length qs g.list.length)) (gmE g (jM g.list.length*a-1) (jM g.list.length*b))) (d:Bool):∃ L,oV (edQ g qs g.list.length) (KR g.list.length a b d) L:=by
 have hle:=hf.le
 have hB:=xM hf ha
 have u1:1<=jM g.list.length/\jM g.list.length<=60001:=by
  show 1<=(g.list.length:Int)*1000+1/\(g.list.length:Int)*1000+1<=60001
  omega
 have m1:=Int.mul_le_mul u1.2 hn.2 (by omega) (by omega)
 have m2:=Int.mul_le_mul u1.2 hd.2 (by omega) (by omega)
 have m3:=Int.mul_le_mul u1.1 hn.1 (by omega) (by omega)
 have m4:=Int.mul_le_mul u1.1 hd.1 (by omega) (by omega)
 obtain ⟨r,_,⟨_,L,hL⟩ | ⟨v,es,hw,hl,hg,_⟩⟩:=IJ (wt:=KR g.list.length a b d) hB.ed
 ·exact ⟨L,hL⟩
 exfalso
 have h0:0<es.length:=by
  cases es with
  | nil=>simp [aN] at hg
  | cons e es=>simp
 have h1:=Xz hf (a:=jM g.list.length*a-1) (b:=jM g.list.length*b) ⟨by omega,by omega⟩ ⟨by omega,by omega⟩ ha hno hw h0
 obtain ⟨b1,b2,b3,b4⟩:=hw.bd hB
 rw [qO] at h1
 have e1:jM g.list.length*b*aN gu es-(jM g.list.length*a-1)*aN dS es=jM g.list.length*(b*aN gu es-a*aN dS es)+aN dS es:=by
  rw [Int.mul_assoc,Int.sub_mul,Int.one_mul,Int.mul_assoc,Int.mul_sub]
  omega
 rw [e1] at h1
 have hgn:aN (wtR a b) es=b*aN gu es-a*aN dS es:=qO a b es
 have hu:jM g.list.length=(g.list.length:Int)*1000+1:=rfl
 have s0:=LV g.list.length a b es
 have s1:=LW g.list.length a b es
 rw [hgn] at s0 s1
 generalize b*aN gu es-a*aN dS es=gn at *
 generalize aN dS es=Y at *
 have hgn0:0<=gn:=Int.not_lt.1 fun hlt=>by
  have:=Int.mul_le_mul_of_nonneg_left (show gn <= -1 by omega) (show 0<=jM g.list.length by omega)
  rw [Int.mul_neg,Int.mul_one] at this
  generalize jM g.list.length*gn=z at *
  omega
 cases d
 ·rw [s0] at hg
  omega
 ·rw [s1] at hg
  have h2:1<=gn+Y:=by
   rcases Int.lt_or_eq_of_le hgn0 with h | h
   ·omega
   ·rw [← h,Int.mul_zero] at h1
    omega
  have h3:=Int.mul_le_mul_of_nonneg_left (show -gn-Y <= -1 by omega) (show (0:Int)<=g.list.length by omega)
  rw [Int.mul_neg,Int.mul_one] at h3
  omega
def owM (w:List Int->Int) (T:List Int) (row:List (List Int)):Nat->Int
 | 0=>0
 | k+1=>max (owM w T row k) (w (row.getD k [])+T.getD (toC (row.getD k [])) 0)
theorem zV (w:List Int->Int) (T:List Int) (row:List (List Int)):∀ k,0<=owM w T row k/\∀ j,j<k->w (row.getD j [])+T.getD (toC (row.getD j [])) 0<=owM w T row k
 | 0=>⟨Int.le_refl _,fun j hj=>by omega⟩
 | k+1=>by
  obtain ⟨h1,h2⟩:=zV w T row k
  unfold owM
  refine ⟨by omega,fun j hj =>?_⟩
  by_cases e:j=k
  ·subst e;omega
  ·have:=h2 j (by omega);omega
theorem IE {w:List Int->Int} {T:List Int} {row:List (List Int)} {B:Int} (h0:0<=B):∀ k,(∀ j,j<k->w (row.getD j [])+T.getD (toC (row.getD j [])) 0<=B)->owM w T row k<=B
 | 0,_=>h0
 | k+1,h=>by
  have h1:=IE (w:=w) (T:=T) (row:=row) h0 k fun j hj=>h j (by omega)
  have h2:=h k (by omega)
  unfold owM
  omega
def askRow (g:GmT) (qs:List Int) (i:Nat):List (List Int):=(g.ch.getD i []).getD (qs.getD i 0).toNat []
def owS (w:List Int->Int) (g:GmT) (qs T:List Int) (i:Nat):List Int:=(List.range i).map fun i=>owM w T (askRow g qs i) (askRow g qs i).length
def owT (w:List Int->Int) (g:GmT) (qs:List Int):Nat->List Int
 | 0=>List.replicate g.list.length 0
 | k+1=>owS w g qs (owT w g qs k) g.list.length
theorem Qp (w:List Int->Int) (g:GmT) (qs T:List Int) (i:Nat):(owS w g qs T i).length=i:=by simp [owS]
theorem yG (w:List Int->Int) (g:GmT) (qs:List Int):∀ k,(owT w g qs k).length=g.list.length
 | 0=>by simp [owT]
 | k+1=>Qp _ _ _ _ _
theorem V3 (w:List Int->Int) (g:GmT) (qs T:List Int) (i:Nat):owS w g qs T (i+1)=owS w g qs T i++[owM w T (askRow g qs i) (askRow g qs i).length]:=by simp [owS,List.range_succ]
theorem IG {w:List Int->Int} {g:GmT} {qs T:List Int} {n i:Nat} (hi:i<n):(owS w g qs T n).getD i 0=owM w T (askRow g qs i) (askRow g qs i).length:=by
 unfold owS
 rw [eP hi]
structure OwB (w:List Int->Int) (g:GmT) (qs:List Int) (S:Nat->Int):Prop where
 pos:∀ i,i<g.list.length->0<=S i
 ge:∀ i,i<g.list.length->∀ k,k<(askRow g qs i).length->w ((askRow g qs i).getD k [])+S (toC ((askRow g qs i).getD k []))<=S i
 to_:∀ i,i<g.list.length->∀ k,k<(askRow g qs i).length->toC ((askRow g qs i).getD k [])<g.list.length
theorem wG {w:List Int->Int} {g:GmT} {qs:List Int} {S:Nat->Int} (h:OwB w g qs S):∀ k i,i<g.list.length->0<=(owT w g qs k).getD i 0/\(owT w g qs k).getD i 0<=S i
 | 0,i,hi=>by
  have:=h.pos i hi
  have e:(owT w g qs 0).getD i 0=0:=by unfold owT;rw [List.getD_eq_getElem?_getD,List.getElem?_replicate,if_pos hi];rfl
  rw [e]
  omega
 | k+1,i,hi=>by
  show 0<=(owS w g qs (owT w g qs k) g.list.length).getD i 0/\_
  rw [show owT w g qs (k+1)=owS w g qs (owT w g qs k) g.list.length from rfl,IG hi]
  refine ⟨(zV _ _ _ _).1,IE (h.pos i hi) _ fun j hj =>?_⟩
  have h1:=h.ge i hi j hj
  have h2:=(wG h k _ (h.to_ i hi j hj)).2
  omega
theorem D5 {w:List Int->Int} {g:GmT} {qs:List Int} {S:Nat->Int} (h:OwB w g qs S):∀ k i,i<g.list.length->(owT w g qs k).getD i 0<=(owT w g qs (k+1)).getD i 0
 | 0,i,hi=>by
  have e:(owT w g qs 0).getD i 0=0:=by unfold owT;rw [List.getD_eq_getElem?_getD,List.getElem?_replicate,if_pos hi];rfl
  rw [e]
  exact (wG h 1 i hi).1
 | k+1,i,hi=>by
  rw [show owT w g qs (k+1)=owS w g qs (owT w g qs k) g.list.length from rfl,show owT w g qs (k+1+1)=owS w g qs (owT w g qs (k+1)) g.list.length from rfl,IG hi,IG hi]
  refine IE (zV _ _ _ _).1 _ fun j hj =>?_
  have h1:=(zV w (owT w g qs (k+1)) (askRow g qs i) (askRow g qs i).length).2 j hj
  have h2:=D5 h k _ (h.to_ i hi j hj)
  omega
def sumF (f:Nat->Int):Nat->Int
 | 0=>0
 | n+1=>sumF f n+f n
theorem Jd {f h:Nat->Int}:∀ n,(∀ i,i<n->f i<=h i)->sumF f n<=sumF h n
 | 0,_=>Int.le_refl _
 | n+1,k=>by
  have h1:=Jd n fun i hi=>k i (by omega)
  have h2:=k n (by omega)
  unfold sumF
  omega
theorem QS {f h:Nat->Int} {j:Nat}:∀ n,(∀ i,i<n->f i<=h i)->j<n->f j<h j->sumF f n<sumF h n
 | 0,_,hj,_=>by omega
 | n+1,k,hj,hlt=>by
  unfold sumF
  by_cases e:j=n
  ·subst e
   have h1:=Jd j fun i hi=>k i (by omega)
   omega
  ·have h1:=QS n (fun i hi=>k i (by omega)) (by omega) hlt
   have h2:=k n (by omega)
   omega
def owU (w:List Int->Int) (g:GmT) (qs:List Int) (S:Nat->Int) (k:Nat):Nat:=(sumF S g.list.length-sumF (fun i=>(owT w g qs k).getD i 0) g.list.length).toNat
theorem Oc {w:List Int->Int} {g:GmT} {qs:List Int} {S:Nat->Int} (h:OwB w g qs S) {k:Nat} (hne:owT w g qs (k+1)≠owT w g qs k):owU w g qs S (k+1)<owU w g qs S k:=by
 have hex:∃ j,j<g.list.length/\(owT w g qs k).getD j 0<(owT w g qs (k+1)).getD j 0:=Classical.byContradiction fun hx=>hne (List.ext_getElem (by rw [yG,yG]) fun j h1 h2=>by
  have hj:j<g.list.length:=by rw [yG] at h2;exact h2
  have h3:=D5 h k j hj
  have h4:¬ (owT w g qs k).getD j 0<(owT w g qs (k+1)).getD j 0:=fun e=>hx ⟨j,hj,e⟩
  rw [getD_in h1,getD_in h2] at h3 h4
  omega)
 obtain ⟨j,hj,hlt⟩:=hex
 have h1:=QS (f:=fun i=>(owT w g qs k).getD i 0) (h:=fun i=>(owT w g qs (k+1)).getD i 0) g.list.length (fun i hi=>D5 h k i hi) hj hlt
 have h2:=Jd (f:=fun i=>(owT w g qs (k+1)).getD i 0) (h:=S) g.list.length fun i hi=>(wG h (k+1) i hi).2
 unfold owU
 omega
structure OwL (w:List Int->Int) (g:GmT) (qs T:List Int):Prop where
 len:T.length=g.list.length
 sol:OwB w g qs fun i=>T.getD i 0
 least:∀ S,OwB w g qs S->∀ i,i<g.list.length->T.getD i 0<=S i
theorem Ld {w:List Int->Int} {g:GmT} {qs:List Int} {S:Nat->Int} (h:OwB w g qs S) {k:Nat} (he:owT w g qs (k+1)=owT w g qs k):OwL w g qs (owT w g qs k):=by
 refine ⟨yG w g qs k,⟨fun i hi=>(wG h k i hi).1,fun i hi j hj =>?_,h.to_⟩,fun S' h' i hi=>(wG h' k i hi).2⟩
 have h1:=(zV w (owT w g qs k) (askRow g qs i) (askRow g qs i).length).2 j hj
 rw [← IG (w:=w) (n:=g.list.length) hi,show owS w g qs (owT w g qs k) g.list.length=owT w g qs (k+1) from rfl,he] at h1
 exact h1
theorem Yr {w:List Int->Int} {g:GmT} {qs T T':List Int} (h:OwL w g qs T) (h':OwL w g qs T'):T=T':=by
 refine List.ext_getElem (by rw [h.len,h'.len]) fun j h1 h2 =>?_
 have hj:j<g.list.length:=by rw [← h.len];exact h1
 have k1:=h.least _ h'.sol j hj
 have k2:=h'.least _ h.sol j hj
 rw [getD_in h1,getD_in h2] at k1 k2
 omega
theorem ZP {m s:List (List Int)} {g:GmT} (hf:aU m s g) {qs:List Int} (ha:rF s g.list.length qs) {n:Nat} {a b:Int} {d:Bool} {G:Int} (hG:0<=G) (hw:∀ i,i<g.list.length->∀ k,k<(askRow g qs i).length -> -G<=iK n a b d ((askRow g qs i).getD k [])/\iK n a b d ((askRow g qs i).getD k [])<=G) (hL:∃ L,oV (edQ g qs g.list.length) (KR n a b d) L):∃ S,OwB (iK n a b d) g qs S/\∀ i,i<g.list.length->S i<=g.list.length*G:=by
 obtain ⟨L,hL⟩:=hL
 have hcl:=hf.clen
 have hto:∀ i,i<g.list.length->∀ k,k<(askRow g qs i).length->toC ((askRow g qs i).getD k [])<g.list.length/\ed4 ((askRow g qs i).getD k [])∈edQ g qs g.list.length/\efr (ed4 ((askRow g qs i).getD k []))=i:=fun i hi k hk=>by
  obtain ⟨r,h1,hr⟩:=ha i hi
  have hmem:(askRow g qs i).getD k []∈askRow g qs i:=by rw [getD_in hk];exact List.getElem_mem hk
  have hrow:=hf.c.row i r (by omega) hr
  have hel:=hrow.el ((askRow g qs i).getD k []) (by unfold askRow at hmem ⊢;rw [h1,Int.toNat_natCast] at hmem ⊢;exact hmem)
  obtain ⟨t,u,x,y,hce,ht,_⟩:=hel
  refine ⟨by rw [hce];unfold toC;simpa using ht,tY.2 ⟨i,hi,List.mem_map.2 ⟨_,hmem,rfl⟩⟩,?_⟩
  rw [hce];unfold efr ed4;simp
 obtain ⟨v0,hv0,-,hmn⟩:=Bv L (fun _=>True) g.list.length ⟨0,hf.pos,trivial⟩
 have hC:CrP g.list.length (fun i k=>k<(askRow g qs i).length) (fun i k t w=>t=toC ((askRow g qs i).getD k [])/\w=iK n a b d ((askRow g qs i).getD k [])) (fun i=>L i-L v0):=⟨fun i hi=>by have:=hmn i hi trivial;omega,fun i k hi hk=>by
  obtain ⟨h1,h2,h3⟩:=hto i hi k hk
  have h4:=hL _ h2
  rw [h3,Yc] at h4
  have e:eto (ed4 ((askRow g qs i).getD k []))=toC ((askRow g qs i).getD k []):=rfl
  rw [e] at h4
  exact ⟨_,_,⟨rfl,rfl⟩,by omega⟩⟩
 obtain ⟨S,h1,h2⟩:=JL (G:=G) (fun i k t w hi hk ⟨e1,e2⟩=>by rw [e1,e2];exact ⟨(hto i hi k hk).1,hw i hi k hk⟩) hG hC
 refine ⟨S,⟨h1.pos,fun i hi k hk =>?_,fun i hi k hk=>(hto i hi k hk).1⟩,fun i hi=>(h2 i hi).2⟩
 obtain ⟨t,w,⟨rfl,rfl⟩,h3⟩:=h1.ok i k hi hk
 exact h3
end Go.Proofs.YtnblieajjclipaaGreat
