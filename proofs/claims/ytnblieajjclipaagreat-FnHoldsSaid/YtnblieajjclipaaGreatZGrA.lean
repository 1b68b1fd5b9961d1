/- Costs and growths along requests, in a graph of pairs: the sums are the algorithm's cost and the least cost. The plain laws. Conditions: problems, algorithms and sequences that are right. -/
import Derived.Test.YtnblieajjclipaaGreatGED
import Derived.Test.YtnblieajjclipaaGreatRA2
set_option linter.all false
namespace Go.Proofs.YtnblieajjclipaaGreat
open Am
theorem Gx {m s:List (List Int)} {x:Nat}:∀ i,(aP m s x i).list.getD 0 []=m.getD x []/\0<(aP m s x i).list.length
 | 0=>⟨rfl,Nat.zero_lt_one⟩
 | i+1=>by
  obtain ⟨h1,h2⟩:=Gx (m:=m) (s:=s) (x:=x) i
  have h3:=lD m s ((aP m s x i).list.getD i []) (aP m s x i).list s.length
  exact ⟨(sO h2 s.length).trans h1,Nat.lt_of_lt_of_le h2 h3.1⟩
structure acE (m s:List (List Int)) (x:Nat) (t:dD):Prop where
 x_:Tq m s t t.list.length
 pos:0<t.list.length
 fst:t.list.getD 0 []=m.getD x []
 tab:qU s t
 el:∀ v∈t.list,jv m v 99
theorem ZM {m s:List (List Int)} {x:Nat} (hp:bg m s=true) (hx:x<m.length) (h:(jq m s x).2=false):acE m s x (jq m s x).1:=by
 have htab:=EM hp hx h
 unfold jq at h htab ⊢
 obtain ⟨k,h1,h2,h3,h4⟩:=oC 500 0 h fun j hj=>by omega
 rw [h1] at htab ⊢
 have hle:k<=(aP m s x k).list.length:=by
  cases k with
  | zero=>omega
  | succ k =>
   have h5:=h4 k (by omega)
   have h6:=(lD m s ((aP m s x k).list.getD k []) (aP m s x k).list s.length).1
   show k+1<=(bV m s ((aP m s x k).list.getD k []) (aP m s x k).list s.length).length
   omega
 have hlen:(aP m s x k).list.length=k:=by omega
 have hX:=NZ (m:=m) (s:=s) (x:=x) k h4
 obtain ⟨h7,h8⟩:=Gx (m:=m) (s:=s) (x:=x) k
 refine ⟨?_,h8,h7,htab,wF hp hx k⟩
 show Tq m s (aP m s x k) (aP m s x k).list.length
 rw [hlen]
 exact hX
theorem least_0 {m s:List (List Int)} {x:Nat} (hp:bg m s=true) (hx:x<m.length):dn (m.getD x []) (m.length-1)=0:=by
 have h1:=ku (m.getD x []) (m.length-1) x (by omega)
 have h2:=prob_0 hp hx
 unfold at2 at h2
 have h3:=iC hp hx
 have h4:=(mQ (m:=m) (w:=m.getD x []) (B:=99) ⟨h3.1,fun y hy=>h3.2 y hy⟩ (m.length-1) (by omega)).1
 omega
end Go.Proofs.YtnblieajjclipaaGreat
namespace Go.Proofs.YtnblieajjclipaaGreat
def vw (s:List (List Int)) (g:GmT) (a b:Int):Prop:=∃ C,CrP g.list.length (rqR s) (gmE g a b) C
structure Tj (s:List (List Int)) (g:GmT) (a b:Int):Prop where
 na:0<=a
 nb:1<=b
 low:Int.gcd a b=1
 has:vw s g a b
 least:∀ p q,0<=p->1<=q->p*b<a*q->¬ vw s g p q
def zh (s:List (List Int)) (g:GmT):Option (Int×Int)->Prop
 | some (a,b)=>Tj s g a b
 | none=>∀ p q,0<=p->1<=q->¬ vw s g p q
theorem Ei {s:List (List Int)} {g:GmT}:∀ {o o':Option (Int×Int)},zh s g o->zh s g o'->o=o'
 | none,none,_,_=>rfl
 | some (a,b),some (a',b'),h,h'=>by
  have h1:¬ a*b'<a'*b:=fun hlt=>h'.least a b h.na h.nb hlt h.has
  have h2:¬ a'*b<a*b':=fun hlt=>h.least a' b' h'.na h'.nb hlt h'.has
  obtain ⟨rfl,rfl⟩:=Vm h.na h.nb h'.na h'.nb h.low h'.low (by omega)
  rfl
 | none,some (a,b),h,h'=>absurd h'.has (h a b h'.na h'.nb)
 | some (a,b),none,h',h=>absurd h'.has (h a b h'.na h'.nb)
structure GrI (s:List (List Int)) (g:GmT) (a b:Int):Prop where
 na:0<=a
 ma:a<=71400
 nb:1<=b
 mb:b<=71400
 low:Int.gcd a b=1
 least:∀ p q,0<=p->1<=q->p*b<a*q->¬ vw s g p q
theorem GrI.first (s:List (List Int)) (g:GmT):GrI s g 0 1:=⟨by omega,by omega,by omega,by omega,by decide,fun p q hp hq h=>by rw [Int.zero_mul,Int.mul_one] at h;omega⟩
theorem GrI.done {s:List (List Int)} {g:GmT} {a b:Int} (h:GrI s g a b) (hc:vw s g a b):zh s g (some (a,b)):=⟨h.na,h.nb,h.low,hc,h.least⟩
def wtL (a b:Int) (e:List Int):Int:=a*e.getD 3 0-b*e.getD 2 0
theorem oI (a b:Int):∀ es,aN (wtL a b) es=a*aN dS es-b*aN gu es
 | []=>by simp [aN]
 | e::es=>by
  simp only [aN,oI a b es,wtL,gu,dS,Int.mul_add]
  omega
structure Tn (E:List (List Int)) (a b:Int):Prop where
 na:0<=a
 ma:a<=71400
 nb:1<=b
 mb:b<=71400
 low:Int.gcd a b=1
 pot:∃ L,oV E (wtL a b) L
 cyc:∃ v es,Wk E v es v/\0<aN dS es/\b*aN gu es=a*aN dS es
def Ho (E:List (List Int)):Option (Int×Int)->Prop
 | some (a,b)=>Tn E a b
 | none=>∃ L,oV E (wtL 1048576 1) L
def Oo (f:Nat->List Int) (v:Nat):Nat->List (List Int)
 | 0=>[]
 | k+1=>f v::Oo f (eto (f v)) k
theorem Ep (f:Nat->List Int):∀ k v,(Oo f v k).length=k
 | 0,_=>rfl
 | k+1,v=>by simp [Oo,Ep f k]
theorem QD {E:List (List Int)} {S:Nat->Prop} {f:Nat->List Int} {wt:List Int->Int} {C:Nat->Int} (h:∀ i,S i->f i∈E/\efr (f i)=i/\S (eto (f i))/\wt (f i)+C (eto (f i))<=C i):∀ k v,S v->S (itr (fun i=>eto (f i)) k v)/\Wk E v (Oo f v k) (itr (fun i=>eto (f i)) k v)/\aN wt (Oo f v k)+C (itr (fun i=>eto (f i)) k v)<=C v
 | 0,v,hv=>⟨hv,.nil v,by simp [Oo,aN,itr]⟩
 | k+1,v,hv=>by
  obtain ⟨h1,h2,h3,h4⟩:=h v hv
  obtain ⟨k1,k2,k3⟩:=QD h k (eto (f v)) h3
  rw [X9]
  refine ⟨k1,?_,?_⟩
  ·have:=Wk.cons h1 k2
   rwa [h2] at this
  ·show wt (f v)+aN wt (Oo f (eto (f v)) k)+_<=_
   omega
theorem FB {E:List (List Int)} {S:Nat->Prop} {n:Nat} {wt:List Int->Int} {C:Nat->Int} (hS:∀ i,S i->i<n) (hne:∃ i,S i) (h:∀ i,S i->∃ e,e∈E/\efr e=i/\S (eto e)/\wt e+C (eto e)<=C i):∃ v es,Wk E v es v/\0<es.length/\es.length<=n/\aN wt es<=0:=by
 obtain ⟨i0,h0⟩:=hne
 obtain ⟨f,hf⟩:=Classical.axiomOfChoice (r:=fun i e=>S i->e∈E/\efr e=i/\S (eto e)/\wt e+C (eto e)<=C i) fun i=>by
  by_cases hi:S i
  ·obtain ⟨e,he⟩:=h i hi
   exact ⟨e,fun _=>he⟩
  ·exact ⟨[],fun h=>absurd h hi⟩
 have hr:=QD hf
 obtain ⟨i,j,hij,hj,e⟩:=Oe n (fun k=>itr (fun i=>eto (f i)) k i0) fun k _=>hS _ (hr k i0 h0).1
 obtain ⟨d,rfl⟩:=Nat.exists_eq_add_of_lt hij
 have hi:=(hr i i0 h0).1
 obtain ⟨k1,k2,k3⟩:=hr (d+1) _ hi
 have e2:itr (fun i=>eto (f i)) (d+1) (itr (fun i=>eto (f i)) i i0)=itr (fun i=>eto (f i)) i i0:=by
  rw [← qH,← Nat.add_assoc]
  exact e.symm
 rw [e2] at k2 k3
 exact ⟨_,_,k2,by rw [Ep];omega,by rw [Ep];omega,by omega⟩
theorem OU {E:List (List Int)} {wt:List Int->Int} {V:Nat->Int} {N:Int} (h:∀ e∈E,V (efr e)+1<=N*wt e+V (eto e)):∀ {v u:Nat} {es:List (List Int)},Wk E v es u->V v+es.length<=N*aN wt es+V u
 | _,_,_,.nil v=>by simp [aN]
 | _,_,_,.cons he k=>by
  have h1:=OU h k
  have h2:=h _ he
  simp only [aN,Int.mul_add,List.length_cons]
  omega
theorem BU {E:List (List Int)} {wt:List Int->Int} {V:Nat->Int} {N:Int} (hN:0<N) (h:∀ e∈E,V (efr e)+1<=N*wt e+V (eto e)) {v:Nat} {es:List (List Int)} (hw:Wk E v es v) (hl:0<es.length):0<aN wt es:=by
 have h1:=OU h hw
 rcases Int.lt_or_le 0 (aN wt es) with h2 | h2
 ·exact h2
 ·have:=Int.mul_le_mul_of_nonneg_left h2 (show 0<=N by omega)
  rw [Int.mul_zero] at this
  omega
theorem Jp {s:List (List Int)} {g:GmT} {E:List (List Int)} {a b a' b':Int} (hb:1<=b) (hpos:∀ {v:Nat} {es:List (List Int)},Wk E v es v->0<es.length->0<aN (wtR a b) es) (hcr:∀ p q,vw s g p q->∃ v es,Wk E v es v/\0<es.length/\aN (wtR p q) es<=0) (hB:∀ {v:Nat} {es:List (List Int)},Wk E v es v->0<=aN gu es/\0<=aN dS es) (hL:Tn E a' b') :
  a*b'<a'*b/\GrI s g a' b':=by
 have hnb:=hL.nb
 have key:∀ p q,0<=p->1<=q->vw s g p q->a'*q<=p*b':=fun p q hp hq hc=>by
  obtain ⟨v,es,h1,h2,h3⟩:=hcr p q hc
  have h4:=hpos h1 h2
  obtain ⟨h5,h6⟩:=hB h1
  obtain ⟨L,hP⟩:=hL.pot
  have h7:=hP.closed h1
  rw [qO] at h3 h4
  rw [oI] at h7
  generalize aN gu es=C at *
  generalize aN dS es=G at *
  have hG:0<G:=by
   rcases Int.lt_or_eq_of_le h6 with h8 | h8
   ·exact h8
   ·rw [← h8,Int.mul_zero] at h3 h4
    have hC:0<C:=Int.lt_of_mul_lt_mul_left (a:=b) (by rw [Int.mul_zero];omega) (by omega)
    have:=Int.mul_le_mul_of_nonneg_right hq (show 0<=C by omega)
    omega
  have h8:a'*q*G<=p*b'*G:=by
   have e1:a'*q*G=q*(a'*G):=by rw [Int.mul_comm a' q,Int.mul_assoc]
   have e2:p*b'*G=b'*(p*G):=by rw [Int.mul_comm p b',Int.mul_assoc]
   rw [e1,e2]
   have h9:=Int.mul_le_mul_of_nonneg_left (show a'*G<=b'*C by omega) (show 0<=q by omega)
   have h10:=Int.mul_le_mul_of_nonneg_left (show q*C<=p*G by omega) (show 0<=b' by omega)
   have e3:q*(b'*C)=b'*(q*C):=Int.mul_left_comm ..
   omega
  exact Int.le_of_mul_le_mul_right h8 hG
 refine ⟨?_,hL.na,hL.ma,hL.nb,hL.mb,hL.low,fun p q hp hq hlt hc =>?_⟩
 ·obtain ⟨v,es,h1,h2,h3⟩:=hL.cyc
  have hl:0<es.length:=by
   cases es with
   | nil=>simp [aN] at h2
   | cons e es=>simp
  have h4:=hpos h1 hl
  rw [qO] at h4
  generalize aN gu es=C at *
  generalize aN dS es=G at *
  refine Int.lt_of_mul_lt_mul_right (a:=G) ?_ (by omega)
  have e1:a*b'*G=b'*(a*G):=by rw [Int.mul_comm a b',Int.mul_assoc]
  have e2:a'*b*G=b'*(b*C):=by rw [Int.mul_comm a' b,Int.mul_assoc,← h3,Int.mul_left_comm]
  rw [e1,e2]
  exact Int.mul_lt_mul_of_pos_left (by omega) (by omega)
 ·have:=key p q hp hq hc
  omega
theorem Jo {s:List (List Int)} {g:GmT} {E:List (List Int)} {a b:Int} {n:Nat} (hn:n<=600) (hb:1<=b) (hpos:∀ {v:Nat} {es:List (List Int)},Wk E v es v->0<es.length->0<aN (wtR a b) es) (hcr:∀ p q,vw s g p q->∃ v es,Wk E v es v/\0<es.length/\es.length<=n/\aN (wtR p q) es<=0) (hB:EdB E n) (hL:∃ L,oV E (wtL 1048576 1) L):zh s g none:=by
 intro p q hp hq hc
 obtain ⟨v,es,h1,h2,hl,h3⟩:=hcr p q hc
 have h4:=hpos h1 h2
 obtain ⟨h5,h5',h6,h6'⟩:=h1.bd hB
 obtain ⟨L,hP⟩:=hL
 have h7:=hP.closed h1
 rw [qO] at h3 h4
 rw [oI] at h7
 generalize aN gu es=C at *
 generalize aN dS es=G at *
 rcases Int.lt_or_eq_of_le h6 with h8 | h8
 ·omega
 ·rw [← h8,Int.mul_zero] at h3 h4
  have hC:0<C:=Int.lt_of_mul_lt_mul_left (a:=b) (by rw [Int.mul_zero];omega) (by omega)
  have:=Int.mul_le_mul_of_nonneg_right hq (show 0<=C by omega)
  omega
end Go.Proofs.YtnblieajjclipaaGreat
