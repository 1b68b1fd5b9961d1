/- Graphs with costs and growths: numbers of nodes by rounds over the edges, cycles with a gain, and the greatest quotient of cost and growth of a cycle. The plain laws. Conditions: edges between nodes. -/
import Derived.Test.YtnblieajjclipaaGreatPR
set_option linter.all false
namespace Go.Proofs.YtnblieajjclipaaGreat
def efr (e:List Int):Nat:=(e.getD 0 0).toNat
def eto (e:List Int):Nat:=(e.getD 1 0).toNat
theorem WU {b:List Int} {i j:Nat} {x:Int}:(b.set i x).getD j 0=if i=j/\i<b.length then x else b.getD j 0:=by
 rw [List.getD_eq_getElem?_getD,List.getElem?_set,List.getD_eq_getElem?_getD]
 by_cases h:i=j
 ·subst h
  by_cases h2:i<b.length
  ·simp [h2]
  ·simp [h2]
 ·simp [h]
def aN (f:List Int->Int):List (List Int)->Int
 | []=>0
 | e::es=>f e+aN f es
inductive Ch (nx:Nat->Option (List Int)):Nat->List (List Int)->Nat->Prop
 | nil (v:Nat):Ch nx v [] v
 | cons {v u:Nat} {e:List Int} {es:List (List Int)} (h:nx v=some e) (k:Ch nx (eto e) es u):Ch nx v (e::es) u
structure Fit (E:List (List Int)) (wt:List Int->Int) (b:Nat->Int) (nx:Nat->Option (List Int)):Prop where
 mem:∀ v e,nx v=some e->e∈E/\efr e=v
 le:∀ v e,nx v=some e->b v<=wt e+b (eto e)
 cyc:∀ v es,Ch nx v es v->es≠[]->0<aN wt es
def Turn (E:List (List Int)) (wt:List Int->Int) (b:Nat->Int) (nx:Nat->Option (List Int)) (b':Nat->Int) (nx':Nat->Option (List Int)):Prop :=
 ∀ v,(b' v=b v/\nx' v=nx v)\/∃ e,e∈E/\efr e=v/\nx' v=some e/\b' v=wt e+b (eto e)/\b v<b' v
theorem Fit.none {E:List (List Int)} {wt:List Int->Int} {b:Nat->Int}:Fit E wt b fun _=>none :=
 ⟨(fun v e h=>by cases h),(fun v e h=>by cases h),fun v es h hn=>by
  cases h with
  | nil=>exact (hn rfl).elim
  | cons h _=>cases h⟩
section
variable {E:List (List Int)} {wt:List Int->Int} {b b':Nat->Int} {nx nx':Nat->Option (List Int)}
theorem Turn.up (t:Turn E wt b nx b' nx') (v:Nat):b v<=b' v:=by
 rcases t v with ⟨h,_⟩ | ⟨e,_,_,_,_,h⟩<;>omega
theorem Turn.chain (hf:Fit E wt b nx) (t:Turn E wt b nx b' nx'):∀ {v u:Nat} {es:List (List Int)},Ch nx' v es u->b v-b u<=aN wt es/\(Ch nx v es u\/b v-b u+1<=aN wt es)
 | _,_,_,.nil v=>⟨by simp [aN],.inl (.nil v)⟩
 | v,u,_,.cons (e:=e) (es:=es) h k=>by
  obtain ⟨h1,h2⟩:=Turn.chain hf t k
  simp only [aN]
  rcases t v with ⟨h3,h4⟩ | ⟨e',_,_,h4,h5,h6⟩
  ·rw [h4] at h
   have h5:=hf.le v e h
   refine ⟨by omega,?_⟩
   rcases h2 with h2 | h2
   ·exact .inl (.cons h h2)
   ·exact .inr (by omega)
  ·rw [h4] at h
   cases h
   exact ⟨by omega,.inr (by omega)⟩
theorem Fit.turn (hf:Fit E wt b nx) (t:Turn E wt b nx b' nx'):Fit E wt b' nx':=by
 refine ⟨fun v e h =>?_,fun v e h =>?_,fun v es h hn =>?_⟩
 ·rcases t v with ⟨_,h4⟩ | ⟨e',h1,h2,h4,_⟩
  ·rw [h4] at h;exact hf.mem v e h
  ·rw [h4] at h;cases h;exact ⟨h1,h2⟩
 ·have:=t.up (eto e)
  rcases t v with ⟨h3,h4⟩ | ⟨e',h1,h2,h4,h5,_⟩
  ·rw [h4] at h;have:=hf.le v e h;omega
  ·rw [h4] at h;cases h;omega
 ·obtain ⟨h1,h2⟩:=t.chain hf h
  rcases h2 with h2 | h2
  ·exact hf.cyc v es h2 hn
  ·omega
end
structure Rank (nx:Nat->Option (List Int)) (r:Nat->Nat) (t:Nat):Prop where
 le:∀ v,r v<=t
 no:∀ v,nx v=none->r v=0
 so:∀ v e,nx v=some e->r v<=r (eto e)+1
def Seen (wt:List Int->Int) (b:Nat->Int) (r:Nat->Nat) (t:Nat) (e:List Int):Prop:=wt e+b (eto e)<=b (efr e)\/t<=r (eto e)
theorem Seen.mono {wt:List Int->Int} {b:Nat->Int} {r:Nat->Nat} {t t':Nat} {e:List Int} (h:Seen wt b r t e) (ht:t'<=t):Seen wt b r t' e:=by
 rcases h with h | h
 ·exact .inl h
 ·exact .inr (by omega)
def fK (nx:Nat->Option (List Int)) (v:Nat):Nat:=match nx v with
 | some e=>eto e
 | none=>v
def itr (f:Nat->Nat):Nat->Nat->Nat
 | 0,v=>v
 | k+1,v=>f (itr f k v)
theorem qH (f:Nat->Nat) (j:Nat):∀ (k v:Nat),itr f (j+k) v=itr f k (itr f j v)
 | 0,_=>rfl
 | k+1,v=>congrArg f (qH f j k v)
theorem X9 (f:Nat->Nat) (k v:Nat):itr f (k+1) v=itr f k (f v):=by
 have:=qH f 1 k v
 rw [Nat.add_comm] at this
 exact this
theorem Oe:∀ (n:Nat) (f:Nat->Nat),(∀ i,i<=n->f i<n)->∃ i j,i<j/\j<=n/\f i=f j
 | 0,f,h=>by have:=h 0 (Nat.le_refl _);omega
 | n+1,f,h=>by
  refine Classical.byContradiction fun hno =>?_
  have hne:∀ i,i<=n->f i≠f (n+1):=fun i hi he=>hno ⟨i,n+1,by omega,by omega,he⟩
  have hl:=h (n+1) (by omega)
  obtain ⟨i,j,h1,h2,h3⟩:=Oe n (fun i=>if f i=n then f (n+1) else f i) fun i hi=>by
   have h1:=h i (by omega)
   have h2:=hne i hi
   try dsimp only
   split<;>omega
  have h4:=hne i (by omega)
  have h5:=hne j h2
  try dsimp only at h3
  refine hno ⟨i,j,h1,by omega,?_⟩
  split at h3<;>split at h3<;>omega
theorem Lr {nx:Nat->Option (List Int)} {r:Nat->Nat} {t v n:Nat} (h:Rank nx r t) (hv:n+1<=r v):∀ j,j<=n->r v<=r (itr (fK nx) j v)+j/\nx (itr (fK nx) j v)≠none
 | 0,_=>⟨Nat.le_refl _,fun hn=>by have:=h.no _ hn;simp only [itr] at this;omega⟩
 | j+1,hj=>by
  obtain ⟨h1,h2⟩:=Lr h hv j (by omega)
  have h3:r v<=r (itr (fK nx) (j+1) v)+(j+1):=by
   simp only [itr]
   generalize itr (fK nx) j v=u at h1 h2
   unfold fK
   cases he:nx u with
   | none=>exact (h2 he).elim
   | some e =>
    have:=h.so u e he
    dsimp only
    omega
  exact ⟨h3,fun hn=>by have:=h.no _ hn;omega⟩
theorem VW {nx:Nat->Option (List Int)} {n v:Nat} (hl:∀ u,nx u≠none->u<n) (h:∀ j,j<=n->nx (itr (fK nx) j v)≠none) :
  ∃ p,1<=p/\p<=n/\itr (fK nx) p (itr (fK nx) n v)=itr (fK nx) n v/\∀ k,nx (itr (fK nx) k (itr (fK nx) n v))≠none:=by
 obtain ⟨i,j,h1,h2,h3⟩:=Oe n (fun j=>itr (fK nx) j v) fun j hj=>hl _ (h j hj)
 try dsimp only at h3
 have per:∀ k,itr (fK nx) (i+k+(j-i)) v=itr (fK nx) (i+k) v:=fun k=>by
  rw [show i+k+(j-i)=j+k by omega,qH,← h3,← qH]
 have low:∀ (k:Nat),∃ q,q<=n/\itr (fK nx) k v=itr (fK nx) q v:=by
  intro k
  induction k using Nat.strongRecOn with
  | _ k ih =>
   by_cases hk:k<=n
   ·exact ⟨k,hk,rfl⟩
   ·obtain ⟨q,h4,h5⟩:=ih (k-(j-i)) (by omega)
    refine ⟨q,h4,?_⟩
    have h6:=per (k-(j-i)-i)
    rw [show i+(k-(j-i)-i)+(j-i)=k by omega,show i+(k-(j-i)-i)=k-(j-i) by omega] at h6
    rw [h6,h5]
 refine ⟨j-i,by omega,by omega,?_,fun k =>?_⟩
 ·rw [← qH]
  have:=per (n-i)
  rw [show i+(n-i)=n by omega] at this
  exact this
 ·rw [← qH]
  obtain ⟨q,h4,h5⟩:=low (n+k)
  rw [h5]
  exact h q h4
def edN (nx:Nat->Option (List Int)) (v:Nat):List Int:=(nx v).getD []
def Fq (nx:Nat->Option (List Int)) (v:Nat):Nat->List (List Int)
 | 0=>[]
 | k+1=>Fq nx v k++[edN nx (itr (fK nx) k v)]
theorem tC (f:List Int->Int):∀ xs ys,aN f (xs++ys)=aN f xs+aN f ys
 | [],ys=>by simp [aN]
 | x::xs,ys=>by simp only [List.cons_append,aN,tC f xs ys];omega
theorem Ch.snoc {nx:Nat->Option (List Int)}:∀ {v u:Nat} {es:List (List Int)} {e:List Int},Ch nx v es u->nx u=some e->Ch nx v (es++[e]) (eto e)
 | _,_,_,e,.nil v,h => .cons h (.nil _)
 | _,_,_,e,.cons h k,h' => .cons h (k.snoc h')
theorem QC {nx:Nat->Option (List Int)} {v:Nat} (h:∀ k,nx (itr (fK nx) k v)≠none):∀ k,Ch nx v (Fq nx v k) (itr (fK nx) k v)
 | 0 => .nil v
 | k+1=>by
  have ih:=QC h k
  simp only [Fq,itr]
  have h1:=h k
  generalize itr (fK nx) k v=u at ih h1 ⊢
  cases he:nx u with
  | none=>exact (h1 he).elim
  | some e =>
   have:=ih.snoc he
   unfold edN fK
   rw [he]
   exact this
theorem Eo {nx:Nat->Option (List Int)} {v:Nat}:∀ k,(Fq nx v k).length=k
 | 0=>rfl
 | k+1=>by simp [Fq,Eo k]
theorem Nj {f:Nat->Nat} {c:Nat}:∀ (n p:Nat),1<=p->p<=n->itr f p c=c->∃ q,1<=q/\q<=n/\itr f q c=c/\∀ i,1<=i->i<q->itr f i c≠c
 | n,p=>by
  induction p using Nat.strongRecOn with
  | _ p ih =>
   intro h1 h2 h3
   by_cases h:∃ i,1<=i/\i<p/\itr f i c=c
   ·obtain ⟨i,k1,k2,k3⟩:=h
    exact ih i k2 k1 (by omega) k3
   ·exact ⟨p,h1,h2,h3,fun i k1 k2 k3=>h ⟨i,k1,k2,k3⟩⟩
inductive Wk (E:List (List Int)):Nat->List (List Int)->Nat->Prop
 | nil (v:Nat):Wk E v [] v
 | cons {u:Nat} {e:List Int} {es:List (List Int)} (h:e∈E) (k:Wk E (eto e) es u):Wk E (efr e) (e::es) u
theorem Ch.wk {E:List (List Int)} {wt:List Int->Int} {b:Nat->Int} {nx:Nat->Option (List Int)} (hf:Fit E wt b nx):∀ {v u:Nat} {es:List (List Int)},Ch nx v es u->Wk E v es u
 | _,_,_,.nil v => .nil v
 | v,_,_,.cons h k=>by
  obtain ⟨h1,h2⟩:=hf.mem v _ h
  rw [← h2]
  exact .cons h1 (k.wk hf)
def oV (E:List (List Int)) (wt:List Int->Int) (L:Nat->Int):Prop:=∀ e∈E,wt e+L (eto e)<=L (efr e)
theorem oV.walk {E:List (List Int)} {wt:List Int->Int} {L:Nat->Int} (h:oV E wt L):∀ {v u:Nat} {es:List (List Int)},Wk E v es u->aN wt es+L u<=L v
 | _,_,_,.nil v=>by simp [aN]
 | _,_,_,.cons he k=>by
  have h1:=h.walk k
  have h2:=h _ he
  simp only [aN]
  omega
theorem oV.closed {E:List (List Int)} {wt:List Int->Int} {L:Nat->Int} (h:oV E wt L) {v:Nat} {es:List (List Int)} (hw:Wk E v es v):aN wt es<=0:=by
 have:=h.walk hw
 omega
def gu (e:List Int):Int:=e.getD 2 0
def dS (e:List Int):Int:=e.getD 3 0
def wtR (a b:Int) (e:List Int):Int:=b*e.getD 2 0-a*e.getD 3 0
theorem qO (a b:Int):∀ es,aN (wtR a b) es=b*aN gu es-a*aN dS es
 | []=>by simp [aN]
 | e::es=>by
  simp only [aN,qO a b es,wtR,gu,dS,Int.mul_add]
  omega
structure acC (E:List (List Int)) (a b:Int):Prop where
 na:0<=a
 nb:1<=b
 low:Int.gcd a b=1
 pot:∃ L,oV E (wtR a b) L
 cyc:(a=0/\b=1)\/∃ v es,Wk E v es v/\0<aN dS es/\b*aN gu es=a*aN dS es
def acD (E:List (List Int)):Prop:=∃ v es,Wk E v es v/\aN dS es=0/\0<aN gu es
def acG (E:List (List Int)):Option (Int×Int)->Prop
 | some (a,b)=>acC E a b
 | none=>acD E
theorem Px {k a m:Int} (h:Int.gcd k a=1) (hd:k ∣ a*m):k ∣ m:=by
 rw [← Int.natAbs_dvd_natAbs] at hd ⊢
 rw [Int.natAbs_mul] at hd
 exact Nat.Coprime.dvd_of_dvd_mul_left h hd
theorem Vm {a b a' b':Int} (ha:0<=a) (hb:1<=b) (ha':0<=a') (hb':1<=b') (hl:Int.gcd a b=1) (hl':Int.gcd a' b'=1) (h:a*b'=a'*b):a=a'/\b=b':=by
 have d1:b ∣ b':=by
  have:b ∣ a*b':=⟨a',by rw [h,Int.mul_comm]⟩
  exact Px (by rw [Int.gcd_comm];exact hl) this
 have d2:b' ∣ b:=by
  have:b' ∣ a'*b:=⟨a,by rw [← h,Int.mul_comm]⟩
  exact Px (by rw [Int.gcd_comm];exact hl') this
 have e:b=b':=Int.le_antisymm (Int.le_of_dvd (by omega) d1) (Int.le_of_dvd (by omega) d2)
 subst e
 exact ⟨Int.eq_of_mul_eq_mul_right (by omega) h,rfl⟩
structure BF where
 num:List Int
 by_:List Int
 last:Int
def nbN (s:BF) (v:Nat):Int:=s.num.getD v 0
def nbX (E:List (List Int)) (by_:List Int) (v:Nat):Option (List Int):=if 0<=by_.getD v (-1) then some (E.getD (by_.getD v (-1)).toNat []) else none
def setB (s:BF) (k:Nat) (e:List Int) (x:Int):BF:=⟨s.num.set (efr e) x,s.by_.set (efr e) k,efr e⟩
def jx1 (wt:List Int->Int) (E:List (List Int)) (old:List Int) (k:Nat) (s:BF):BF :=
 if nbN s (efr (E.getD k []))<wt (E.getD k [])+old.getD (eto (E.getD k [])) 0 then setB s k (E.getD k []) (wt (E.getD k [])+old.getD (eto (E.getD k [])) 0) else s
def jxN (wt:List Int->Int) (E:List (List Int)) (old:List Int) (s:BF):Nat->BF
 | 0=>s
 | k+1=>jx1 wt E old k (jxN wt E old s k)
def rx1 (wt:List Int->Int) (E:List (List Int)) (k:Nat) (s:BF):BF:=jx1 wt E s.num k s
def rxN (wt:List Int->Int) (E:List (List Int)) (s:BF):Nat->BF
 | 0=>s
 | k+1=>rx1 wt E k (rxN wt E s k)
def newR (s:BF):BF:=⟨s.num,s.by_,-1⟩
def rxR (wt:List Int->Int) (E:List (List Int)) (s:BF):BF:=rxN wt E (newR s) E.length
def bf0 (n:Nat):BF:=⟨List.replicate n 0,List.replicate n (-1),-1⟩
def rnd (R:BF->BF) (n:Nat):Nat->BF
 | 0=>bf0 n
 | t+1=>R (rnd R n t)
theorem LG {b:List Int} {i j:Nat} {x:Int}:(b.set i x).getD j (-1)=if i=j/\i<b.length then x else b.getD j (-1):=by
 rw [List.getD_eq_getElem?_getD,List.getElem?_set,List.getD_eq_getElem?_getD]
 by_cases h:i=j
 ·subst h
  by_cases h2:i<b.length
  ·simp [h2]
  ·simp [h2]
 ·simp [h]
def vN (E:List (List Int)) (n:Nat):Prop:=∀ e∈E,efr e<n/\eto e<n
theorem getD_mem {E:List (List Int)} {k:Nat} (h:k<E.length):E.getD k []∈E:=by
 rw [getD_in h]
 exact List.getElem_mem h
structure BL (E:List (List Int)) (n:Nat) (s:BF):Prop where
 num:s.num.length=n
 byl:s.by_.length=n
 byr:∀ v,-1<=s.by_.getD v (-1)/\s.by_.getD v (-1)<E.length
section
variable {E:List (List Int)} {wt:List Int->Int} {n:Nat}
theorem BL.set {s:BF} (h:BL E n s) {k:Nat} (hk:k<E.length) (e:List Int) (x:Int):BL E n (setB s k e x) :=
 ⟨by simp [setB,h.num],by simp [setB,h.byl],fun v=>by
  simp only [setB,LG]
  have:=h.byr v
  split<;>omega⟩
theorem Qh {s:BF} (h:BL E n s) {k:Nat} {e:List Int} (he:efr e<n) {x:Int} {v:Nat}:nbN (setB s k e x) v=if efr e=v then x else nbN s v:=by
 simp only [nbN,setB,WU,h.num,he,and_true]
theorem Qi {s:BF} (h:BL E n s) {k:Nat} {e:List Int} (he:efr e<n) {x:Int} {v:Nat}:nbX E (setB s k e x).by_ v=if efr e=v then some (E.getD k []) else nbX E s.by_ v:=by
 simp only [nbX,setB,LG,h.byl,he,and_true]
 by_cases hv:efr e=v
 ·simp [hv]
 ·simp [hv]
structure BI (E:List (List Int)) (wt:List Int->Int) (n:Nat) (s:BF) (t:Nat):Prop where
 bl:BL E n s
 fit:Fit E wt (nbN s) (nbX E s.by_)
 rank:∃ r,Rank (nbX E s.by_) r t/\(∀ e∈E,Seen wt (nbN s) r t e)/\(s.last<0\/∃ v:Nat,s.last=v/\v<n/\r v=t)
 no:s.last<0->1<=t->oV E wt (nbN s)
 nn:∀ v,0<=nbN s v
 le:∀ L,oV E wt L->(∀ v,0<=L v)->∀ v,nbN s v<=L v
theorem Og (n:Nat) (x:Int) (v:Nat):(List.replicate n x).getD v x=x:=by
 rw [List.getD_eq_getElem?_getD,List.getElem?_replicate]
 split<;>rfl
theorem bi0:BI E wt n (bf0 n) 0:=by
 have h0:∀ v,nbN (bf0 n) v=0:=Og n 0
 have h1:∀ v,nbX E (bf0 n).by_ v=none:=fun v=>by
  have:=Og n (-1) v
  unfold nbX bf0
  dsimp only
  rw [this]
  rfl
 have h2:nbX E (bf0 n).by_=fun _=>none:=funext h1
 refine ⟨⟨by simp [bf0],by simp [bf0],fun v =>?_⟩,?_,⟨fun _=>0,⟨fun _=>Nat.le_refl _,fun _ _=>rfl,fun v e h=>by rw [h1] at h;cases h⟩,fun e _ => .inr (Nat.zero_le _),.inl (by show (-1:Int)<0;decide)⟩,fun _ h=>by omega,fun v=>by rw [h0];exact Int.le_refl _,fun L _ h v=>by rw [h0];exact h v⟩
 ·have:=Og n (-1) v
  show -1<=(List.replicate n (-1:Int)).getD v (-1)/\(List.replicate n (-1:Int)).getD v (-1)<E.length
  omega
 ·rw [h2]
  exact Fit.none
theorem BL.fresh {s:BF} (h:BL E n s):BL E n (newR s):=⟨h.num,h.byl,h.byr⟩
theorem oV.up {b:Nat->Int} {L:Nat->Int} (hL:oV E wt L) {e:List Int} (he:e∈E) (h:b (eto e)<=L (eto e)):wt e+b (eto e)<=L (efr e):=by
 have:=hL e he
 omega
structure RI (E:List (List Int)) (wt:List Int->Int) (n t j:Nat) (s:BF):Prop where
 bl:BL E n s
 fit:Fit E wt (nbN s) (nbX E s.by_)
 rank:∃ r,Rank (nbX E s.by_) r (t+1)/\(∀ i,i<E.length->Seen wt (nbN s) r (if i<j then t+1 else t) (E.getD i []))/\(s.last<0\/∃ v:Nat,s.last=v/\v<n/\r v=t+1)
 no:s.last<0->∀ i,i<j->wt (E.getD i [])+nbN s (eto (E.getD i []))<=nbN s (efr (E.getD i []))
 nn:∀ v,0<=nbN s v
 le:∀ L,oV E wt L->(∀ v,0<=L v)->∀ v,nbN s v<=L v
theorem Rank.mono {nx:Nat->Option (List Int)} {r:Nat->Nat} {t t':Nat} (h:Rank nx r t) (ht:t<=t'):Rank nx r t':=⟨fun v=>Nat.le_trans (h.le v) ht,h.no,h.so⟩
theorem RI.step (hE:vN E n) {t j:Nat} (hj:j<E.length) {s:BF} (h:RI E wt n t j s):RI E wt n t (j+1) (rx1 wt E j s):=by
 have hm:=getD_mem hj
 obtain ⟨h1,h2⟩:=hE _ hm
 obtain ⟨r,k1,k2,k3⟩:=h.rank
 unfold rx1 jx1
 change RI E wt n t (j+1) (if nbN s (efr (E.getD j []))<wt (E.getD j [])+nbN s (eto (E.getD j [])) then setB s j (E.getD j []) (wt (E.getD j [])+nbN s (eto (E.getD j []))) else s)
 generalize he:E.getD j []=e at hm h1 h2
 by_cases hc:nbN s (efr e)<wt e+nbN s (eto e)
 ·rw [if_pos hc]
  have hs:=fun v=>Qh h.bl (k:=j) h1 (x:=wt e+nbN s (eto e)) (v:=v)
  have hn:∀ v,nbX E (setB s j e (wt e+nbN s (eto e))).by_ v=if efr e=v then some e else nbX E s.by_ v:=fun v=>by rw [Qi h.bl h1,he]
  have hse:t<=r (eto e):=by
   have:=k2 j hj
   rw [he,if_neg (by omega)] at this
   rcases this with h3 | h3
   ·omega
   ·exact h3
  have turn:Turn E wt (nbN s) (nbX E s.by_) (nbN (setB s j e (wt e+nbN s (eto e)))) (nbX E (setB s j e (wt e+nbN s (eto e))).by_):=fun v=>by
   rw [hs,hn]
   by_cases hv:efr e=v
   ·rw [if_pos hv,if_pos hv]
    subst hv
    exact .inr ⟨e,hm,rfl,rfl,rfl,hc⟩
   ·rw [if_neg hv,if_neg hv]
    exact .inl ⟨rfl,rfl⟩
  refine ⟨h.bl.set hj _ _,h.fit.turn turn,⟨fun v=>if efr e=v then t+1 else r v,⟨fun v =>?_,fun v hv =>?_,fun v e' hv =>?_⟩,fun i hi =>?_,.inr ⟨efr e,rfl,h1,if_pos rfl⟩⟩,fun hl =>?_,fun v =>?_,fun L hL hL0 v =>?_⟩
  ·have:=k1.le v
   try dsimp only
   split<;>omega
  ·rw [hn] at hv
   try dsimp only
   split at hv
   ·cases hv
   ·rename_i hne
    rw [if_neg hne]
    exact k1.no v hv
  ·rw [hn] at hv
   try dsimp only
   split at hv
   ·cases hv
    rename_i hne
    rw [if_pos hne]
    split<;>omega
   ·rename_i hne
    rw [if_neg hne]
    have h3:=k1.so v e' hv
    have h4:=k1.le v
    split<;>omega
  ·by_cases hij:i=j
   ·subst hij
    rw [he]
    by_cases huv:efr e=eto e
    ·refine .inr ?_
     try dsimp only
     rw [if_pos huv]
     split<;>omega
    ·refine .inl ?_
     rw [hs,hs,if_neg huv,if_pos rfl]
     exact Int.le_refl _
   ·have h3:=k2 i hi
    have h5:(if i<j+1 then t+1 else t)=(if i<j then t+1 else t):=by
     by_cases h6:i<j
     ·rw [if_pos h6,if_pos (by omega)]
     ·rw [if_neg h6,if_neg (by omega)]
    rw [h5]
    have h6:(if i<j then t+1 else t)<=t+1:=by split<;>omega
    generalize (if i<j then t+1 else t)=τ at h3 h6
    generalize E.getD i []=e' at h3
    by_cases hv:efr e=eto e'
    ·refine .inr ?_
     try dsimp only
     rw [if_pos hv]
     exact h6
    ·rcases h3 with h3 | h3
     ·refine .inl ?_
      have h7:=turn.up (efr e')
      rw [hs (eto e'),if_neg hv]
      omega
     ·refine .inr ?_
      try dsimp only
      rw [if_neg hv]
      exact h3
  ·have:(efr e:Int)<0:=hl
   omega
  ·have:=turn.up v
   have:=h.nn v
   omega
  ·rw [hs]
   split
   ·rename_i hv
    rw [← hv]
    exact hL.up hm (h.le L hL hL0 _)
   ·exact h.le L hL hL0 v
 ·rw [if_neg hc]
  refine ⟨h.bl,h.fit,⟨r,k1,fun i hi =>?_,k3⟩,fun hl i hi =>?_,h.nn,h.le⟩
  ·by_cases hij:i=j
   ·subst hij
    rw [he]
    exact .inl (by omega)
   ·have h3:=k2 i hi
    by_cases h6:i<j
    ·rw [if_pos h6] at h3
     rw [if_pos (by omega)]
     exact h3
    ·rw [if_neg h6] at h3
     rw [if_neg (by omega)]
     exact h3
  ·by_cases hij:i=j
   ·subst hij
    rw [he]
    omega
   ·exact h.no hl i (by omega)
theorem RI.all (hE:vN E n) {t:Nat} {s:BF} (h:RI E wt n t 0 s):∀ j,j<=E.length->RI E wt n t j (rxN wt E s j)
 | 0,_=>h
 | j+1,hj=>(RI.all hE h j (by omega)).step hE (by omega)
theorem BI.toR {t:Nat} {s:BF} (h:BI E wt n s t):RI E wt n t 0 (newR s):=by
 obtain ⟨r,k1,k2,_⟩:=h.rank
 exact ⟨h.bl.fresh,h.fit,⟨r,k1.mono (by omega),fun i hi=>k2 _ (getD_mem hi),.inl (by show (-1:Int)<0;decide)⟩,fun _ i hi=>by omega,h.nn,h.le⟩
theorem BI.gs (hE:vN E n) {t:Nat} {s:BF} (h:BI E wt n s t):BI E wt n (rxR wt E s) (t+1):=by
 have h1:=RI.all hE h.toR E.length (Nat.le_refl _)
 obtain ⟨r,k1,k2,k3⟩:=h1.rank
 refine ⟨h1.bl,h1.fit,⟨r,k1,fun e he =>?_,k3⟩,fun hl _ e he =>?_,h1.nn,h1.le⟩
 ·obtain ⟨i,hi,rfl⟩:=List.mem_iff_getElem.1 he
  have:=k2 i hi
  rw [if_pos hi,getD_in hi] at this
  exact this
 ·obtain ⟨i,hi,rfl⟩:=List.mem_iff_getElem.1 he
  have:=h1.no hl i hi
  rw [getD_in hi] at this
  exact this
structure JI (E:List (List Int)) (wt:List Int->Int) (n:Nat) (o:BF) (j:Nat) (s:BF):Prop where
 bl:BL E n s
 each:∀ v,(nbN s v=nbN o v/\nbX E s.by_ v=nbX E o.by_ v)\/∃ e,e∈E/\efr e=v/\nbX E s.by_ v=some e/\nbN s v=wt e+nbN o (eto e)/\nbN o v<nbN s v
 seen:∀ i,i<j->wt (E.getD i [])+nbN o (eto (E.getD i []))<=nbN s (efr (E.getD i []))
 last:(s.last<0/\∀ v,nbN s v=nbN o v)\/∃ v:Nat,s.last=v/\v<n/\nbN o v<nbN s v
theorem JI.step (hE:vN E n) {j:Nat} (hj:j<E.length) {o s:BF} (h:JI E wt n o j s):JI E wt n o (j+1) (jx1 wt E o.num j s):=by
 have hm:=getD_mem hj
 obtain ⟨h1,h2⟩:=hE _ hm
 unfold jx1
 change JI E wt n o (j+1) (if nbN s (efr (E.getD j []))<wt (E.getD j [])+nbN o (eto (E.getD j [])) then setB s j (E.getD j []) (wt (E.getD j [])+nbN o (eto (E.getD j []))) else s)
 have hup:∀ v,nbN o v<=nbN s v:=Turn.up (E:=E) (wt:=wt) (nx:=nbX E o.by_) (nx':=nbX E s.by_) h.each
 generalize he:E.getD j []=e at hm h1 h2
 by_cases hc:nbN s (efr e)<wt e+nbN o (eto e)
 ·rw [if_pos hc]
  have hs:=fun v=>Qh h.bl (k:=j) h1 (x:=wt e+nbN o (eto e)) (v:=v)
  have hn:∀ v,nbX E (setB s j e (wt e+nbN o (eto e))).by_ v=if efr e=v then some e else nbX E s.by_ v:=fun v=>by rw [Qi h.bl h1,he]
  have h3:=hup (efr e)
  refine ⟨h.bl.set hj _ _,fun v =>?_,fun i hi =>?_,.inr ⟨efr e,rfl,h1,?_⟩⟩
  ·rw [hs,hn]
   by_cases hv:efr e=v
   ·rw [if_pos hv,if_pos hv]
    subst hv
    exact .inr ⟨e,hm,rfl,rfl,rfl,by omega⟩
   ·rw [if_neg hv,if_neg hv]
    exact h.each v
  ·rw [hs]
   by_cases hij:i=j
   ·subst hij
    rw [he,if_pos rfl]
    exact Int.le_refl _
   ·have:=h.seen i (by omega)
    split
    ·rename_i hv
     rw [← hv] at this
     omega
    ·exact this
  ·rw [hs,if_pos rfl]
   omega
 ·rw [if_neg hc]
  refine ⟨h.bl,h.each,fun i hi =>?_,h.last⟩
  by_cases hij:i=j
  ·subst hij
   rw [he]
   omega
  ·exact h.seen i (by omega)
theorem JI.all (hE:vN E n) {o s:BF} (h:JI E wt n o 0 s):∀ j,j<=E.length->JI E wt n o j (jxN wt E o.num s j)
 | 0,_=>h
 | j+1,hj=>(JI.all hE h j (by omega)).step hE (by omega)
theorem Oi {R:BF->BF} (hR:∀ s t,BI E wt n s t->BI E wt n (R s) (t+1)):∀ t,BI E wt n (rnd R n t) t
 | 0=>bi0
 | t+1=>hR _ _ (Oi hR t)
structure Ti (E:List (List Int)) (wt:List Int->Int) (n:Nat) (by_:List Int) (c:Nat) (p:Nat):Prop where
 p1:1<=p
 pn:p<=n
 back:itr (fK (nbX E by_)) p c=c
 first:∀ i,1<=i->i<p->itr (fK (nbX E by_)) i c≠c
 some:∀ k,nbX E by_ (itr (fK (nbX E by_)) k c)≠none
 gain:0<aN wt (Fq (nbX E by_) c p)
 wk:Wk E c (Fq (nbX E by_) c p) c
theorem BI.cyc (hE:vN E n) {s:BF} (h:BI E wt n s (n+1)) (hl:¬ s.last<0):∃ v:Nat,s.last=v/\v<n/\(∀ j,j<=n->nbX E s.by_ (itr (fK (nbX E s.by_)) j v)≠none)/\∃ p,Ti E wt n s.by_ (itr (fK (nbX E s.by_)) n v) p:=by
 obtain ⟨r,k1,_,k3⟩:=h.rank
 rcases k3 with k3 | ⟨v,h1,h2,h3⟩
 ·exact (hl k3).elim
 ·have h4:=fun j hj=>(Lr k1 (n:=n) (v:=v) (by omega) j hj).2
  refine ⟨v,h1,h2,h4,?_⟩
  have hlt:∀ u,nbX E s.by_ u≠none->u<n:=fun u hu=>by
   cases he:nbX E s.by_ u with
   | none=>exact (hu he).elim
   | some e =>
    obtain ⟨h5,h6⟩:=h.fit.mem u e he
    rw [← h6]
    exact (hE e h5).1
  obtain ⟨p,p1,p2,p3,p4⟩:=VW hlt h4
  obtain ⟨q,q1,q2,q3,q4⟩:=Nj n p p1 p2 p3
  have hc:=QC p4 q
  rw [q3] at hc
  exact ⟨q,q1,q2,q3,q4,p4,h.fit.cyc _ _ hc (fun hn=>by have:=congrArg List.length hn;rw [Eo] at this;simp at this;omega),hc.wk h.fit⟩
end
structure EdB (E:List (List Int)) (n:Nat):Prop where
 nle:n<=600
 ed:vN E n
 bd:∀ e∈E,0<=e.getD 2 0/\e.getD 2 0<=119/\0<=e.getD 3 0/\e.getD 3 0<=119
theorem Wk.bd {E:List (List Int)} {n:Nat} (h:EdB E n):∀ {v u:Nat} {es:List (List Int)},Wk E v es u->0<=aN gu es/\aN gu es<=119*(es.length:Int)/\0<=aN dS es/\aN dS es<=119*(es.length:Int)
 | _,_,_,.nil v=>by simp [aN]
 | _,_,_,.cons (e:=e) (es:=es) he k=>by
  have h1:=k.bd h
  have h2:=h.bd e he
  simp only [aN,gu,dS,List.length_cons]
  omega
structure L6 (E:List (List Int)) (a b:Int):Prop where
 na:0<=a
 ma:a<=71400
 nb:1<=b
 mb:b<=71400
 low:Int.gcd a b=1
 cyc:(a=0/\b=1)\/∃ v es,Wk E v es v/\0<aN dS es/\b*aN gu es=a*aN dS es
theorem L6.first (E:List (List Int)):L6 E 0 1:=⟨by decide,by decide,by decide,by decide,by decide,.inl ⟨rfl,rfl⟩⟩
theorem L6.done {E:List (List Int)} {a b:Int} (h:L6 E a b) {L:Nat->Int} (hL:oV E (wtR a b) L):acG E (some (a,b)):=⟨h.na,h.nb,h.low,⟨L,hL⟩,h.cyc⟩
abbrev MM:Int:=5097960000
def muR (a b:Int):Nat:=(MM*71400-a*MM / b).toNat
theorem VA {a b a' b':Int} (ha:0<=a) (hb:1<=b) (hb2:b<=71400) (ha':0<=a') (ma':a'<=71400) (hb':1<=b') (hb'2:b'<=71400) (h:a*b'<a'*b):muR a' b'<muR a b:=by
 have hM:MM=5097960000:=rfl
 have h1:b*b'<=MM:=by
  have:b*b'<=71400*71400:=Int.mul_le_mul hb2 hb'2 (by omega) (by omega)
  omega
 have h2:a*MM / b*b<=a*MM:=Int.ediv_mul_le _ (by omega)
 have h3:(a*MM / b+1)*b'<=a'*MM:=by
  refine Int.le_of_mul_le_mul_left (a:=b) ?_ (by omega)
  have e1:b*((a*MM / b+1)*b')=(a*MM / b*b)*b'+b*b':=by
   rw [Int.add_mul,Int.one_mul,Int.mul_add,← Int.mul_assoc,Int.mul_comm b]
  have e2:(a*MM / b*b)*b'<=a*MM*b':=Int.mul_le_mul_of_nonneg_right h2 (by omega)
  have e3:a*MM*b'=(a*b')*MM:=by rw [Int.mul_right_comm]
  have e4:b*(a'*MM)=(a'*b)*MM:=by rw [← Int.mul_assoc,Int.mul_comm b]
  have e5:(a*b'+1)*MM<=(a'*b)*MM:=Int.mul_le_mul_of_nonneg_right (by omega) (by decide)
  rw [Int.add_mul,Int.one_mul] at e5
  omega
 have h4:a*MM / b+1<=a'*MM / b':=Int.le_ediv_of_mul_le (by omega) h3
 have h5:a'*MM / b'<=a'*MM:=Int.ediv_le_self _ (Int.mul_nonneg ha' (by decide))
 have h6:a'*MM<=71400*MM:=Int.mul_le_mul_of_nonneg_right ma' (by decide)
 unfold muR
 omega
theorem L6.next {E:List (List Int)} {n:Nat} (hE:EdB E n) {a b:Int} (h:L6 E a b) {v:Nat} {es:List (List Int)} (hw:Wk E v es v) (hl:es.length<=n) (hg:0<aN (wtR a b) es) :
  (aN dS es=0->acG E none)/\(0<aN dS es->L6 E (qN (aN gu es) (aN dS es)) (qD (aN gu es) (aN dS es))/\muR (qN (aN gu es) (aN dS es)) (qD (aN gu es) (aN dS es))<muR a b/\a*qD (aN gu es) (aN dS es)<qN (aN gu es) (aN dS es)*b):=by
 obtain ⟨h1,h2,h3,h4⟩:=hw.bd hE
 rw [qO] at hg
 have hle:=hE.nle
 refine ⟨fun h0=>⟨v,es,hw,h0,?_⟩,fun h0 =>?_⟩
 ·rw [h0] at hg
  rcases Int.lt_or_eq_of_le h1 with h5 | h5
  ·exact h5
  ·rw [← h5] at hg;omega
 ·have hw':∃ v es',Wk E v es' v/\aN gu es'=aN gu es/\aN dS es'=aN dS es:=⟨v,es,hw,rfl,rfl⟩
  generalize aN gu es=C at *
  generalize aN dS es=G at *
  have k1:=zW (n:=C) h0
  have k2:=wJ (n:=C) h0
  have k3:=IU (n:=C) h0
  have k4:=Qx (n:=C) h0
  have k5:=kL C G h0
  generalize qN C G=x at *
  generalize qD C G=y at *
  generalize hgg:((Int.gcd C G:Nat):Int)=g at *
  have hg1:1<=g:=by omega
  have kx0:0<=x:=by
   rcases Int.lt_or_le x 0 with hx | hx
   ·have:=Int.mul_neg_of_neg_of_pos hx (show (0:Int)<g by omega)
    omega
   ·exact hx
  have kx1:x<=C:=by
   have:x*1<=x*g:=Int.mul_le_mul_of_nonneg_left hg1 kx0
   omega
  have ky1:y<=G:=by
   have:y*1<=y*g:=Int.mul_le_mul_of_nonneg_left hg1 (by omega)
   omega
  have hlt:a*y<x*b:=by
   refine Int.lt_of_mul_lt_mul_right (a:=g) ?_ (by omega)
   have e1:a*y*g=a*G:=by rw [Int.mul_assoc,k2]
   have e2:x*b*g=b*C:=by rw [Int.mul_right_comm,k1,Int.mul_comm]
   rw [e1,e2]
   omega
  have hx2:x<=71400:=by omega
  have hy2:y<=71400:=by omega
  refine ⟨⟨kx0,hx2,by omega,hy2,k4,.inr ?_⟩,VA h.na h.nb h.mb kx0 hx2 (by omega) hy2 hlt,hlt⟩
  obtain ⟨v,es',w1,w2,w3⟩:=hw'
  refine ⟨v,es',w1,by rw [w3];exact h0,?_⟩
  rw [w2,w3,← k1,← k2,← Int.mul_assoc,← Int.mul_assoc,Int.mul_comm y x]
theorem Gn {p:Nat->Prop}:∀ (n:Nat),p n->∃ m,m<=n/\p m/\∀ i,i<m->¬ p i:=fun n=>by
 induction n using Nat.strongRecOn with
 | _ n ih =>
  intro h
  by_cases hx:∃ i,i<n/\p i
  ·obtain ⟨i,h1,h2⟩:=hx
   obtain ⟨m,k1,k2,k3⟩:=ih i h1 h2
   exact ⟨m,by omega,k2,k3⟩
  ·exact ⟨n,Nat.le_refl _,h,fun i hi hp=>hx ⟨i,hi,hp⟩⟩
def Hf (R:BF->BF) (n t:Nat):Prop:=t<=n/\(rnd R n (t+1)).last<0/\∀ i,i<t->¬ (rnd R n (i+1)).last<0
def tK (R:BF->BF) (n:Nat):Prop:=∀ i,i<=n->¬ (rnd R n (i+1)).last<0
theorem XT (R:BF->BF) (n:Nat):(∃ t,Hf R n t)\/tK R n:=by
 by_cases h:∃ t,t<=n/\(rnd R n (t+1)).last<0
 ·obtain ⟨t,h1,h2⟩:=h
  obtain ⟨m,k1,k2,k3⟩:=Gn (p:=fun t=>(rnd R n (t+1)).last<0) t h2
  exact .inl ⟨m,by omega,k2,k3⟩
 ·exact .inr fun i hi hl=>h ⟨i,hi,hl⟩
section
variable {E:List (List Int)} {n:Nat} {wt:List Int->Int} {R:BF->BF}
theorem Hf.pot (hR:∀ s t,BI E wt n s t->BI E wt n (R s) (t+1)) {t:Nat} (h:Hf R n t):oV E wt (nbN (rnd R n (t+1))):=(Oi hR (t+1)).no h.2.1 (by omega)
theorem tK.cyc (hE:vN E n) (hR:∀ s t,BI E wt n s t->BI E wt n (R s) (t+1)) (h:tK R n):∃ v:Nat,(rnd R n (n+1)).last=v/\v<n/\(∀ j,j<=n->nbX E (rnd R n (n+1)).by_ (itr (fK (nbX E (rnd R n (n+1)).by_)) j v)≠none)/\∃ p,Ti E wt n (rnd R n (n+1)).by_ (itr (fK (nbX E (rnd R n (n+1)).by_)) n v) p :=
 (Oi hR (n+1)).cyc hE (h n (Nat.le_refl _))
end
theorem Ti.len {E:List (List Int)} {wt:List Int->Int} {n c p:Nat} {by_:List Int} (h:Ti E wt n by_ c p):(Fq (nbX E by_) c p).length<=n:=by
 rw [Eo]
 exact h.pn
end Go.Proofs.YtnblieajjclipaaGreat
