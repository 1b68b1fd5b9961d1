/- Systems of arcs and floors and their least solutions: plain laws. Conditions: finitely many nodes. -/
set_option linter.all false
namespace Go.Proofs.YtnblieajjclipaaGreat
open Classical in
noncomputable def cnP (p:Nat->Prop):Nat->Nat
 | 0=>0
 | n+1=>cnP p n+if p n then 1 else 0
theorem TY (p:Nat->Prop):∀ n,cnP p n<=n
 | 0=>Nat.le_refl _
 | n+1=>by
  have:=TY p n
  unfold cnP
  split<;>omega
theorem kW {p q:Nat->Prop}:∀ n,(∀ v,v<n->p v->q v)->cnP p n<=cnP q n
 | 0,_=>Nat.le_refl _
 | n+1,h=>by
  have h1:=kW n fun v hv=>h v (by omega)
  have h2:=h n (by omega)
  unfold cnP
  by_cases hp:p n
  ·rw [if_pos hp,if_pos (h2 hp)];omega
  ·rw [if_neg hp];split<;>omega
theorem Ua {p q:Nat->Prop}:∀ n,(∀ v,v<n->p v->q v)->(∃ v,v<n/\q v/\¬ p v)->cnP p n<cnP q n
 | 0,_,⟨v,hv,_⟩=>by omega
 | n+1,h,⟨v,hv,h1,h2⟩=>by
  have h3:=kW n fun v hv=>h v (by omega)
  unfold cnP
  by_cases e:v=n
  ·subst e
   rw [if_pos h1,if_neg h2];omega
  ·have h4:=Ua n (fun v hv=>h v (by omega)) ⟨v,by omega,h1,h2⟩
   have h5:=h n (by omega)
   by_cases hp:p n
   ·rw [if_pos hp,if_pos (h5 hp)];omega
   ·rw [if_neg hp];split<;>omega
theorem JJ {p:Nat->Prop}:∀ n,cnP p n=0->∀ v,v<n->¬ p v
 | 0,_,v,hv=>by omega
 | n+1,h,v,hv=>by
  unfold cnP at h
  by_cases hp:p n
  ·rw [if_pos hp] at h;omega
  ·by_cases e:v=n
   ·rw [e];exact hp
   ·exact JJ n (by rw [if_neg hp] at h;omega) v (by omega)
theorem TW {p:Nat->Prop} {n:Nat} (h:cnP p n<n):∃ v,v<n/\¬ p v:=by
 apply Classical.byContradiction
 intro hc
 have h1:cnP (fun _=>True) n<=cnP p n:=kW n fun v hv _=>Classical.byContradiction fun hn=>hc ⟨v,hv,hn⟩
 have h2:∀ n,cnP (fun _=>True) n=n:=fun n=>by
  induction n with
  | zero=>rfl
  | succ n ih=>unfold cnP;rw [ih,if_pos trivial]
 rw [h2] at h1
 omega
theorem Ub {p q:Nat->Prop}:∀ n,cnP (fun v=>p v\/q v) n<=cnP p n+cnP q n
 | 0=>Nat.le_refl _
 | n+1=>by
  have:=Ub (p:=p) (q:=q) n
  unfold cnP
  by_cases hp:p n
  ·rw [if_pos (.inl hp),if_pos hp];split<;>omega
  ·by_cases hq:q n
   ·rw [if_pos (.inr hq),if_pos hq,if_neg hp];omega
   ·rw [if_neg (by rintro (h | h)<;>contradiction),if_neg hp,if_neg hq];omega
def sAI (f:Nat->Int):Nat->Int
 | 0=>0
 | n+1=>sAI f n+f n
theorem Ey {f g:Nat->Int}:∀ n,(∀ v,v<n->f v<=g v)->sAI f n<=sAI g n
 | 0,_=>Int.le_refl _
 | n+1,h=>by
  have h1:=Ey n fun v hv=>h v (by omega)
  have h2:=h n (by omega)
  unfold sAI;omega
theorem tu {f g:Nat->Int}:∀ n,(∀ v,v<n->f v<=g v)->(∃ v,v<n/\f v<g v)->sAI f n<sAI g n
 | 0,_,⟨v,hv,_⟩=>by omega
 | n+1,h,⟨v,hv,h1⟩=>by
  have h2:=h n (by omega)
  unfold sAI
  by_cases e:v=n
  ·subst e
   have h3:=Ey v fun u hu=>h u (by omega)
   omega
  ·have h3:=tu n (fun u hu=>h u (by omega)) ⟨v,by omega,h1⟩
   omega
theorem zY {f:Nat->Int}:∀ n,(∀ v,v<n->0<=f v)->0<=sAI f n
 | 0,_=>Int.le_refl _
 | n+1,h=>by
  have h1:=zY n fun v hv=>h v (by omega)
  have h2:=h n (by omega)
  unfold sAI;omega
structure rC (n:Nat) (A:Nat->Nat->Int->Prop) (F:Nat->Int->Prop) (U:Nat->Int):Prop where
 pos:∀ v,v<n->0<=U v
 arc:∀ v t w,v<n->A v t w->w+U t<=U v
 flr:∀ v c,v<n->F v c->c<=U v
structure vC (n:Nat) (A:Nat->Nat->Int->Prop) (F:Nat->Int->Prop) (V:Nat->Int):Prop where
 sup:rC n A F V
 le:∀ U,rC n A F U->∀ v,v<n->V v<=U v
theorem rC.min {n:Nat} {A:Nat->Nat->Int->Prop} {F:Nat->Int->Prop} {U U':Nat->Int} (h:rC n A F U) (h':rC n A F U'):rC n A F fun v=>if U v<=U' v then U v else U' v:=by
 refine ⟨fun v hv =>?_,fun v t w hv ha =>?_,fun v c hv hc =>?_⟩
 ·have:=h.pos v hv
  have:=h'.pos v hv
  show 0<=ite _ _ _
  split<;>omega
 ·have:=h.arc v t w hv ha
  have:=h'.arc v t w hv ha
  show w+ite _ _ _<=ite _ _ _
  split<;>split<;>omega
 ·have:=h.flr v c hv hc
  have:=h'.flr v c hv hc
  show c<=ite _ _ _
  split<;>omega
theorem Ip {n:Nat} {A:Nat->Nat->Int->Prop} {F:Nat->Int->Prop}:∀ (N:Nat) (U:Nat->Int),(sAI U n).toNat<=N->rC n A F U->∃ V,vC n A F V/\∀ v,v<n->V v<=U v:=by
 intro N
 induction N with
 | zero =>
  intro U hN h
  refine ⟨U,⟨h,fun U' h' v hv =>?_⟩,fun v _=>Int.le_refl _⟩
  rcases Int.lt_or_le (U' v) (U v) with hlt | hle
  ·have h1:=tu (f:=fun _=>0) n (fun v hv=>h.pos v hv) ⟨v,hv,Int.lt_of_le_of_lt (h'.pos v hv) hlt⟩
   have h2:∀ n,sAI (fun _=>0) n=0:=fun n=>by induction n with | zero=>rfl | succ n ih=>unfold sAI;rw [ih];rfl
   rw [h2] at h1
   omega
  ·exact hle
 | succ N ih =>
  intro U hN h
  by_cases hx:∃ U',rC n A F U'/\∃ v,v<n/\U' v<U v
  ·obtain ⟨U',h',v,hv,hlt⟩:=hx
   have hm:=h.min h'
   have h1:=tu (f:=fun v=>if U v<=U' v then U v else U' v) (g:=U) n (fun u _=>by
    show ite _ _ _<=_
    split<;>omega) ⟨v,hv,by
    show ite _ _ _<_
    split<;>omega⟩
   have h2:=zY n hm.pos
   obtain ⟨V,h3,h4⟩:=ih _ (by omega) hm
   refine ⟨V,h3,fun u hu =>?_⟩
   have h5:=h4 u hu
   have h6:(if U u<=U' u then U u else U' u)<=U u:=by split<;>omega
   exact Int.le_trans h5 h6
  ·refine ⟨U,⟨h,fun U' h' v hv =>?_⟩,fun v _=>Int.le_refl _⟩
   rcases Int.lt_or_le (U' v) (U v) with hlt | hle
   ·exact absurd ⟨U',h',v,hv,hlt⟩ hx
   ·exact hle
open Classical in
theorem vC.lower {n:Nat} {A:Nat->Nat->Int->Prop} {F:Nat->Int->Prop} {V:Nat->Int} (h:vC n A F V) (S:Nat->Prop) (hne:∃ v,v<n/\S v)
  (hS:∀ v,v<n->S v->1<=V v/\(∀ c,F v c->c<=V v-1)/\∀ t w,A v t w->¬ S t->w+V t<=V v-1):False:=by
 obtain ⟨v,hv,hs⟩:=hne
 have:=h.le (fun u=>if S u then V u-1 else V u) ⟨fun u hu =>?_,fun u t w hu ha =>?_,fun u c hu hc =>?_⟩ v hv
 ·simp only [if_pos hs] at this
  omega
 ·show 0<=ite _ _ _
  split
  ·rename_i h1
   have:=(hS u hu h1).1
   omega
  ·exact h.sup.pos u hu
 ·have h1:=h.sup.arc u t w hu ha
  show w+ite _ _ _<=ite _ _ _
  by_cases h2:S u
  ·rw [if_pos h2]
   by_cases h3:S t
   ·rw [if_pos h3];omega
   ·rw [if_neg h3]
    exact (hS u hu h2).2.2 t w ha h3
  ·rw [if_neg h2]
   split<;>omega
 ·have h1:=h.sup.flr u c hu hc
  show c<=ite _ _ _
  split
  ·rename_i h2
   exact (hS u hu h2).2.1 c hc
  ·exact h1
theorem vC.rank {n:Nat} {A:Nat->Nat->Int->Prop} {F:Nat->Int->Prop} {V:Nat->Int} (h:vC n A F V) (hA:∀ v t w,v<n->A v t w->t<n) (Q:Nat->Nat->Prop)
  (mono:∀ k v,v<n->Q k v->Q (k+1) v) (h0:∀ k v,v<n->V v=0->Q (k+1) v) (hF:∀ k v c,v<n->F v c->V v=c->Q (k+1) v)
  (hs:∀ k v t w,v<n->A v t w->V v=w+V t->Q k t->Q (k+1) v):∀ v,v<n->Q n v:=by
 have key:∀ k,k<=n->cnP (fun v=>¬ Q k v) n<=n-k:=by
  intro k
  induction k with
  | zero=>intro _;exact TY _ n
  | succ k ih =>
   intro hk
   have h1:=ih (by omega)
   have h2:cnP (fun v=>¬ Q (k+1) v) n<=cnP (fun v=>¬ Q k v) n:=kW n fun v hv h3 h4=>h3 (mono k v hv h4)
   rcases Nat.lt_or_ge (cnP (fun v=>¬ Q (k+1) v) n) (cnP (fun v=>¬ Q k v) n) with hlt | hge
   ·omega
   ·by_cases hz:cnP (fun v=>¬ Q (k+1) v) n=0
    ·omega
    exfalso
    have hsame:∀ v,v<n->Q (k+1) v->Q k v:=fun v hv h3=>Classical.byContradiction fun h4=>by
     have:=Ua (p:=fun v=>¬ Q (k+1) v) (q:=fun v=>¬ Q k v) n (fun v hv h3 h4=>h3 (mono k v hv h4)) ⟨v,hv,h4,fun h5=>h5 h3⟩
     omega
    have hne:∃ v,v<n/\¬ Q (k+1) v:=Classical.byContradiction fun hc=>by
     have:cnP (fun v=>¬ Q (k+1) v) n<=cnP (fun _=>False) n:=kW n fun v hv h3=>hc ⟨v,hv,h3⟩
     have h5:∀ n,cnP (fun _=>False) n=0:=fun n=>by induction n with | zero=>rfl | succ n ih=>unfold cnP;rw [ih,if_neg id]
     rw [h5] at this
     omega
    refine h.lower (fun v=>v<n/\¬ Q (k+1) v) (by obtain ⟨v,hv,h3⟩:=hne;exact ⟨v,hv,hv,h3⟩) fun v hv ⟨_,h3⟩=>⟨?_,fun c hc =>?_,fun t w ha h4 =>?_⟩
    ·have h4:=h.sup.pos v hv
     have h5:V v≠0:=fun e=>h3 (h0 k v hv e)
     omega
    ·have h4:=h.sup.flr v c hv hc
     have h5:V v≠c:=fun e=>h3 (hF k v c hv hc e)
     omega
    ·have h5:=h.sup.arc v t w hv ha
     have ht:=hA v t w hv ha
     have h6:V v≠w+V t:=fun e=>h3 (hs k v t w hv ha e (hsame t ht (Classical.byContradiction fun h7=>h4 ⟨ht,h7⟩)))
     omega
 intro v hv
 have h1:=key n (Nat.le_refl _)
 rw [Nat.sub_self] at h1
 exact Classical.byContradiction fun h2=>JJ n (Nat.le_zero.1 h1) v hv h2
end Go.Proofs.YtnblieajjclipaaGreat
namespace Go.Proofs.YtnblieajjclipaaGreat
structure CrP (n:Nat) (R:Nat->Nat->Prop) (E:Nat->Nat->Nat->Int->Prop) (C:Nat->Int):Prop where
 pos:∀ i,i<n->0<=C i
 ok:∀ i r,i<n->R i r->∃ t w,E i r t w/\w+C t<=C i
def EOK (n:Nat) (R:Nat->Nat->Prop) (E:Nat->Nat->Nat->Int->Prop) (G:Int):Prop:=∀ i r t w,i<n->R i r->E i r t w->t<n /\ -G<=w/\w<=G
theorem Vq (f:Nat->Int):∀ n,0<n->∃ i,i<n/\∀ j,j<n->f j<=f i
  | 0,h=>by omega
  | n+1,_=>by
    rcases Nat.eq_zero_or_pos n with rfl | hn
    · exact ⟨0, by omega, fun j hj => by obtain rfl : j = 0 := by omega
                                         exact Int.le_refl _⟩
    · obtain ⟨i,hi,h⟩:=Vq f n hn
      by_cases hle:f n<=f i
      · exact ⟨i,by omega,fun j hj=>by
          by_cases e:j=n
          · rw [e];exact hle
          · exact h j (by omega)⟩
      · exact ⟨n,by omega,fun j hj=>by
          by_cases e:j=n
          · rw [e];exact Int.le_refl _
          · have:=h j (by omega)
            omega⟩
theorem W9 {k G:Int} (hG:0<=G) {x y:Int} (h:x<=G+y) (hy:y<=k*G):x<=(k+1)*G:=by rw [Int.add_mul];omega
theorem JL {n:Nat} {R:Nat->Nat->Prop} {E:Nat->Nat->Nat->Int->Prop} {G:Int} (hE:EOK n R E G) (hG:0<=G) {C:Nat->Int} (h:CrP n R E C):∃ C',CrP n R E C'/\∀ i,i<n->C' i<=C i/\C' i<=n*G:=by
 have hs:rC n (fun i t w=>∃ r,R i r/\E i r t w/\w+C t<=C i) (fun _ _=>False) C:=⟨h.pos,fun v t w _ ⟨_,_,_,h1⟩=>h1,fun _ _ _ h=>h.elim⟩
 obtain ⟨V,h1,h2⟩:=Ip _ C (Nat.le_refl _) hs
 refine ⟨V,⟨h1.sup.pos,fun i r hi hr =>?_⟩,fun i hi=>⟨h2 i hi,?_⟩⟩
 ·obtain ⟨t,w,h3,h4⟩:=h.ok i r hi hr
  exact ⟨t,w,h3,h1.sup.arc i t w hi ⟨r,hr,h3,h4⟩⟩
 ·refine h1.rank (fun v t w hv ⟨r,hr,he,_⟩=>(hE v r t w hv hr he).1) (fun k v=>V v<=k*G) (fun k v _ h3 =>?_) (fun k v _ h3 =>?_) (fun _ _ _ _ h3=>h3.elim) (fun k v t w hv ⟨r,hr,he,_⟩ h3 h4 =>?_) i hi
  ·rw [Int.natCast_add,Int.add_mul]
   have:=Int.mul_nonneg (show (0:Int)<=k by omega) hG
   omega
  ·rw [h3]
   exact Int.mul_nonneg (by omega) hG
  ·have h5:=(hE v r t w hv hr he).2
   rw [Int.natCast_add]
   exact W9 hG (by omega) h4
theorem WW (V:Nat->Int) (n a:Nat) (h:n<a):∃ s:Int,0<=s/\∀ v,v<n->(V v+s) % (a:Int)≠(a:Int)-1:=by
 have key:∀ n,cnP (fun s=>∃ v,v<n/\(V v+(s:Int)) % (a:Int)=(a:Int)-1) a<=n:=by
  intro n
  induction n with
  | zero =>
   have h1:cnP (fun s=>∃ v,v<0/\(V v+(s:Int)) % (a:Int)=(a:Int)-1) a<=cnP (fun _=>False) a:=kW a fun s _ ⟨v,hv,_⟩=>by omega
   have h5:∀ n,cnP (fun _=>False) n=0:=fun n=>by induction n with | zero=>rfl | succ n ih=>unfold cnP;rw [ih,if_neg id]
   rw [h5] at h1
   exact h1
  | succ n ih =>
   have h1:cnP (fun s=>∃ v,v<n+1/\(V v+(s:Int)) % (a:Int)=(a:Int)-1) a<=cnP (fun s=>(∃ v,v<n/\(V v+(s:Int)) % (a:Int)=(a:Int)-1)\/(V n+(s:Int)) % (a:Int)=(a:Int)-1) a:=kW a fun s _ ⟨v,hv,h2⟩=>by
    by_cases e:v=n
    ·subst e;exact .inr h2
    ·exact .inl ⟨v,by omega,h2⟩
   have h2:=Ub (p:=fun s=>∃ v,v<n/\(V v+((s:Nat):Int)) % (a:Int)=(a:Int)-1) (q:=fun s=>(V n+((s:Nat):Int)) % (a:Int)=(a:Int)-1) a
   have one:∀ (b:Nat),b<=a->cnP (fun s=>(V n+((s:Nat):Int)) % (a:Int)=(a:Int)-1) b<=1:=by
    intro b
    induction b with
    | zero=>intro _;exact Nat.zero_le _
    | succ b ihb =>
     intro hb
     unfold cnP
     by_cases hp:(V n+(b:Int)) % (a:Int)=(a:Int)-1
     ·rw [if_pos hp]
      have hz:cnP (fun s=>(V n+((s:Nat):Int)) % (a:Int)=(a:Int)-1) b=0:=by
       have h3:cnP (fun s=>(V n+((s:Nat):Int)) % (a:Int)=(a:Int)-1) b<=cnP (fun _=>False) b:=kW b fun s hs h4=>by
        have e1:(V n+(b:Int)) % (a:Int)=(V n+(s:Int)) % (a:Int):=by rw [hp,h4]
        have e2:=Int.emod_emod_of_dvd (V n+(b:Int)-(V n+(s:Int))) (Int.dvd_refl (a:Int))
        have e3:(V n+(b:Int)-(V n+(s:Int))) % (a:Int)=0:=by rw [Int.sub_emod,e1,Int.sub_self];exact Int.zero_emod _
        have e4:V n+(b:Int)-(V n+(s:Int))=((b-s:Nat):Int):=by omega
        rw [e4] at e3
        have e5:((b-s:Nat):Int) % (a:Int)=((b-s:Nat):Int):=Int.emod_eq_of_lt (by omega) (by omega)
        omega
       have h5:∀ n,cnP (fun _=>False) n=0:=fun n=>by induction n with | zero=>rfl | succ n ih=>unfold cnP;rw [ih,if_neg id]
       rw [h5] at h3
       omega
      omega
     ·rw [if_neg hp]
      have:=ihb (by omega)
      omega
   have:=one a (Nat.le_refl _)
   omega
 obtain ⟨s,hs,h1⟩:=TW (Nat.lt_of_le_of_lt (key n) h)
 exact ⟨s,by omega,fun v hv h2=>h1 ⟨v,hv,h2⟩⟩
theorem Un {a g x y s:Int} (ha:0<a) (h:a*g-1+y<=x) (hx:(x+s) % a≠a-1):g+(y+s) / a<=(x+s) / a:=by
 have h1:=Int.emod_def (x+s) a
 have h2:=Int.emod_def (y+s) a
 have h3:=Int.emod_nonneg (x+s) (show a≠0 by omega)
 have h4:=Int.emod_lt_of_pos (x+s) ha
 have h5:=Int.emod_nonneg (y+s) (show a≠0 by omega)
 have h6:a*(g+(y+s) / a)<a*((x+s) / a+1):=by
  rw [Int.mul_add,Int.mul_add,Int.mul_one]
  omega
 have:=Int.lt_of_mul_lt_mul_left h6 (by omega)
 omega
structure ql (n:Nat) (R:Nat->Nat->Prop) (E:Nat->Nat->Nat->Int->Prop) (a great M:Int) (V:Nat->Int):Prop where
 pos:∀ i,i<n->0<=V i
 alg:∀ i r,i<n->R i r->(∃ t w,E i r t w/\a*w-1+V t<=V i)\/great<=V i
 adv:∀ i,i<n->0<V i->∃ r,R i r/\∀ t w,E i r t w->V i<=a*w-1+V t
 gap:∀ i,i<n->V i<=M\/great-M<=V i
theorem ql.small {n:Nat} {R:Nat->Nat->Prop} {E:Nat->Nat->Nat->Int->Prop} {a great M G:Int} {V C:Nat->Int} (h:ql n R E a great M V) (hE:EOK n R E G) (hG:0<=G) (ha:0<a) (hM:a*(n*G)<great-M) (hC:CrP n R E C):∀ i,i<n->V i<=M:=by
 intro i0 hi0
 obtain ⟨D,hD,hb⟩:=JL hE hG hC
 have key:∀ i,i<n->V i<=a*D i:=by
  obtain ⟨i,hi,hmax⟩:=Vq (fun i=>V i-a*D i) n (by omega)
  intro j hj
  have h1:=hmax j hj
  have h2:V i<=a*D i:=by
   rcases Int.lt_or_le (a*D i) (V i) with hlt | hle
   ·exfalso
    have h3:=Int.mul_nonneg (show 0<=a by omega) (hD.pos i hi)
    obtain ⟨r,hr,h4⟩:=h.adv i hi (by omega)
    obtain ⟨t,w,h5,h6⟩:=hD.ok i r hi hr
    have h7:=h4 t w h5
    have h8:=hmax t (hE i r t w hi hr h5).1
    have h9:=Int.mul_le_mul_of_nonneg_left h6 (show 0<=a by omega)
    rw [Int.mul_add] at h9
    omega
   ·exact hle
  omega
 have h1:=key i0 hi0
 have h2:=Int.mul_le_mul_of_nonneg_left (hb i0 hi0).2 (show 0<=a by omega)
 rcases h.gap i0 hi0 with h3 | h3
 ·exact h3
 ·omega
theorem ql.MO {n a:Nat} {R:Nat->Nat->Prop} {E:Nat->Nat->Nat->Int->Prop} {great M G:Int} {V:Nat->Int} (h:ql n R E a great M V) (hE:EOK n R E G) (hn:n<a) (hM:M+a*G+1<great-M) (hG:0<=G):∃ C:Nat->Int,∀ i,i<n->V i<=M->0<=C i/\∀ r,R i r->∃ t w,E i r t w/\V t<=M/\w+C t<=C i:=by
 obtain ⟨s,hs,h1⟩:=WW V n a hn
 have haG:0<=(a:Int)*G:=Int.mul_nonneg (by omega) hG
 refine ⟨fun i=>(V i+s) / (a:Int),fun i hi hV=>⟨Int.ediv_nonneg (by have:=h.pos i hi;omega) (by omega),fun r hr =>?_⟩⟩
 rcases h.alg i r hi hr with ⟨t,w,h2,h3⟩ | h2
 ·have h4:=hE i r t w hi hr h2
  refine ⟨t,w,h2,?_,Un (by omega) h3 (h1 i hi)⟩
  have h5:=Int.mul_le_mul_of_nonneg_left h4.2.1 (show (0:Int)<=a by omega)
  rw [Int.mul_neg] at h5
  rcases h.gap t h4.1 with h6 | h6<;>omega
 ·have:=h.pos i hi
  omega
theorem ql.all {n a:Nat} {R:Nat->Nat->Prop} {E:Nat->Nat->Nat->Int->Prop} {great M G:Int} {V:Nat->Int} (h:ql n R E a great M V) (hE:EOK n R E G) (hn:n<a) (hM:M+a*G+1<great-M) (hG:0<=G) (hall:∀ i,i<n->V i<=M):∃ C,CrP n R E C:=by
 obtain ⟨C,hC⟩:=h.MO hE hn hM hG
 exact ⟨C,fun i hi=>(hC i hi (hall i hi)).1,fun i r hi hr=>by obtain ⟨t,w,h1,_,h2⟩:=(hC i hi (hall i hi)).2 r hr;exact ⟨t,w,h1,h2⟩⟩
theorem vC.gap {n:Nat} {A:Nat->Nat->Int->Prop} {F:Nat->Int->Prop} {V:Nat->Int} {great K:Int} (h:vC n A F V) (hK:0<=K) (hA:∀ v t w,v<n->A v t w->t<n /\ -K<=w/\w<=K) (hF:∀ v c,v<n->F v c->c=great):∀ v,v<n->V v<=n*K\/(great-n*K<=V v/\V v<=great+n*K):=by
 refine h.rank (fun v t w hv ha=>(hA v t w hv ha).1) (fun k v=>V v<=k*K\/(great-k*K<=V v/\V v<=great+k*K)) (fun k v _ h1 =>?_) (fun k v _ h1 =>?_) (fun k v c hv hc h1 =>?_) (fun k v t w hv ha h1 h2 =>?_)
 ·rw [Int.natCast_add,Int.add_mul]
  omega
 ·rw [h1]
  exact .inl (Int.mul_nonneg (by omega) hK)
 ·have:=hF v c hv hc
  have:=Int.mul_nonneg (show (0:Int)<=((k+1:Nat):Int) by omega) hK
  omega
 ·have:=(hA v t w hv ha).2
  rw [Int.natCast_add,Int.add_mul]
  omega
theorem vC.tight {n:Nat} {A:Nat->Nat->Int->Prop} {F:Nat->Int->Prop} {V:Nat->Int} (h:vC n A F V) {v:Nat} (hv:v<n) (h0:0<V v):(∃ c,F v c/\V v=c)\/(∃ t w,A v t w/\V v<=w+V t):=by
 apply Classical.byContradiction
 intro hc
 refine h.lower (fun u=>u=v) ⟨v,hv,rfl⟩ fun u _ e =>?_
 subst e
 refine ⟨by omega,fun c hF =>?_,fun t w ha _ =>?_⟩
 ·have h1:=h.sup.flr u c hv hF
  have h2:V u≠c:=fun e=>hc (.inl ⟨c,hF,e⟩)
  omega
 ·have h2:¬ V u<=w+V t:=fun e=>hc (.inr ⟨t,w,ha,e⟩)
  omega
theorem CrP.min {n:Nat} {R:Nat->Nat->Prop} {E:Nat->Nat->Nat->Int->Prop} {C D:Nat->Int} (h:CrP n R E C) (h':CrP n R E D):CrP n R E fun v=>if C v<=D v then C v else D v:=by
 refine ⟨fun v hv =>?_,fun i r hi hr =>?_⟩
 ·have:=h.pos v hv
  have:=h'.pos v hv
  show 0<=ite _ _ _
  split<;>omega
 ·by_cases hle:C i<=D i
  ·obtain ⟨t,w,h1,h2⟩:=h.ok i r hi hr
   refine ⟨t,w,h1,?_⟩
   show w+ite _ _ _<=ite _ _ _
   rw [if_pos hle]
   split<;>omega
  ·obtain ⟨t,w,h1,h2⟩:=h'.ok i r hi hr
   refine ⟨t,w,h1,?_⟩
   show w+ite _ _ _<=ite _ _ _
   rw [if_neg hle]
   split<;>omega
structure SpG where
 n:Nat
 q:Nat
 K:Nat->Nat->Nat
 T:Nat->Nat->Nat->Nat
 W:Nat->Nat->Nat->Int
 may:Nat->Nat->Bool
structure EY (g:SpG) (K:Int):Prop where
 el:∀ i r k,i<g.n->r<g.q->k<g.K i r->g.T i r k<g.n /\ -K<=g.W i r k/\g.W i r k<=K
def bK (g:SpG) (give:Int) (V:Nat->Int) (i r:Nat) (k:Int):Int:=if k<0 then give else g.W i r k.toNat+V (g.T i r k.toNat)
def spA (g:SpG) (ch:Nat->Nat->Int) (i t:Nat) (w:Int):Prop:=∃ r,r<g.q/\g.may i r=true/\0<=ch i r/\t=g.T i r (ch i r).toNat/\w=g.W i r (ch i r).toNat
def spF (g:SpG) (ch:Nat->Nat->Int) (give:Int) (i:Nat) (c:Int):Prop:=∃ r,r<g.q/\g.may i r=true/\ch i r<0/\c=give
structure SpC (g:SpG) (ch:Nat->Nat->Int):Prop where
 lt:∀ i r,i<g.n->r<g.q->ch i r<g.K i r
 ge:∀ i r,i<g.n->r<g.q -> -1<=ch i r
abbrev SpV (g:SpG) (give:Int) (ch:Nat->Nat->Int) (V:Nat->Int):Prop:=vC g.n (spA g ch) (spF g ch give) V
theorem Ja {g:SpG} {K:Int} (h:EY g K) {ch:Nat->Nat->Int} (hc:SpC g ch):∀ i t w,i<g.n->spA g ch i t w->t<g.n /\ -K<=w/\w<=K:=by
 rintro i t w hi ⟨r,hr,_,h0,rfl,rfl⟩
 have:=hc.lt i r hi hr
 exact h.el i r _ hi hr (by omega)
theorem EH {g:SpG} {give:Int} {ch:Nat->Nat->Int} {V:Nat->Int} (hV:rC g.n (spA g ch) (spF g ch give) V) {i r:Nat} (hi:i<g.n) (hr:r<g.q) (hm:g.may i r=true):bK g give V i r (ch i r)<=V i:=by
 unfold bK
 split
 ·rename_i h
  exact hV.flr i _ hi ⟨r,hr,hm,h,rfl⟩
 ·rename_i h
  exact hV.arc i _ _ hi ⟨r,hr,hm,by omega,rfl,rfl⟩
theorem GU {g:SpG} {give:Int} {ch:Nat->Nat->Int} {V:Nat->Int} (h0:∀ i,i<g.n->0<=V i) (h:∀ i r,i<g.n->r<g.q->g.may i r=true->bK g give V i r (ch i r)<=V i):rC g.n (spA g ch) (spF g ch give) V:=by
 refine ⟨h0,?_,?_⟩
 ·rintro i t w hi ⟨r,hr,hm,h1,rfl,rfl⟩
  have:=h i r hi hr hm
  unfold bK at this
  rwa [if_neg (by omega)] at this
 ·rintro i c hi ⟨r,hr,hm,h1,rfl⟩
  have:=h i r hi hr hm
  unfold bK at this
  rwa [if_pos h1] at this
theorem GR {g:SpG} {give:Int} {ch:Nat->Nat->Int} (h1:∀ i r,i<g.n->r<g.q->ch i r = -1) (hg:0<=give):∃ V,SpV g give ch V:=by
 obtain ⟨V,h2,_⟩:=Ip _ (fun _=>give) (Nat.le_refl _) (GU (g:=g) (give:=give) (ch:=ch) (fun _ _=>hg) fun i r hi hr _=>by
  unfold bK
  rw [h1 i r hi hr,if_pos (by omega)]
  exact Int.le_refl _)
 exact ⟨V,h2⟩
structure SpN (g:SpG) (give:Int) (V:Nat->Int) (ch ch':Nat->Nat->Int):Prop where
 ok:SpC g ch'
 dif:∀ i r,i<g.n->r<g.q->ch' i r=ch i r\/(0<=ch' i r/\bK g give V i r (ch' i r)<bK g give V i r (ch i r))
def spM (g:SpG) (give:Int) (V:Nat->Int) (ch:Nat->Nat->Int):Int:=sAI (fun i=>V i+sAI (fun r=>bK g give V i r (ch i r)) g.q) g.n
theorem SpN.le {g:SpG} {give:Int} {V:Nat->Int} {ch ch':Nat->Nat->Int} (h:SpN g give V ch ch') {i r:Nat} (hi:i<g.n) (hr:r<g.q):bK g give V i r (ch' i r)<=bK g give V i r (ch i r):=by
 rcases h.dif i r hi hr with e | ⟨_,e⟩
 ·rw [e];exact Int.le_refl _
 ·omega
theorem nR {g:SpG} {give K:Int} (hok:EY g K) {V V':Nat->Int} (h:∀ i,i<g.n->V' i<=V i) {i r:Nat} (hi:i<g.n) (hr:r<g.q) {k:Int} (hk:k<g.K i r):bK g give V' i r k<=bK g give V i r k:=by
 unfold bK
 split
 ·exact Int.le_refl _
 ·have:=h _ (hok.el i r k.toNat hi hr (by omega)).1
  omega
theorem SpN.next {g:SpG} {K give:Int} {V:Nat->Int} {ch ch':Nat->Nat->Int} (h:SpN g give V ch ch') (hok:EY g K) (hV:SpV g give ch V):∃ V',SpV g give ch' V'/\(∀ i,i<g.n->V' i<=V i)/\spM g give V' ch'<=spM g give V ch/\((∃ i r,i<g.n/\r<g.q/\ch' i r≠ch i r)->spM g give V' ch'<spM g give V ch):=by
 obtain ⟨V',h1,h2⟩:=Ip _ V (Nat.le_refl _) (GU (g:=g) (give:=give) (ch:=ch') (V:=V) hV.sup.pos fun i r hi hr hm=>Int.le_trans (h.le hi hr) (EH hV.sup hi hr hm))
 have h3:∀ i r,i<g.n->r<g.q->bK g give V' i r (ch' i r)<=bK g give V i r (ch i r):=fun i r hi hr=>Int.le_trans (nR hok h2 hi hr (h.ok.lt i r hi hr)) (h.le hi hr)
 have h4:∀ i,i<g.n->V' i+sAI (fun r=>bK g give V' i r (ch' i r)) g.q<=V i+sAI (fun r=>bK g give V i r (ch i r)) g.q:=fun i hi=>by
  have:=h2 i hi
  have:=Ey (f:=fun r=>bK g give V' i r (ch' i r)) (g:=fun r=>bK g give V i r (ch i r)) g.q fun r hr=>h3 i r hi hr
  omega
 refine ⟨V',h1,h2,Ey g.n h4,?_⟩
 rintro ⟨i,r,hi,hr,hne⟩
 refine tu g.n h4 ⟨i,hi,?_⟩
 have h5:=h2 i hi
 have h6:=tu (f:=fun r=>bK g give V' i r (ch' i r)) (g:=fun r=>bK g give V i r (ch i r)) g.q (fun r hr=>h3 i r hi hr) ⟨r,hr,by
  rcases h.dif i r hi hr with e | ⟨_,e⟩
  ·exact absurd e hne
  ·exact Int.lt_of_le_of_lt (nR hok h2 hi hr (h.ok.lt i r hi hr)) e⟩
 show V' i+_<V i+_
 omega
theorem WY {g:SpG} {K give:Int} (hok:EY g K) (hK:0<=K) (hg:0<=give) {V:Nat->Int} (h0:∀ i,i<g.n->0<=V i) {ch:Nat->Nat->Int} (hc:SpC g ch):0<=spM g give V ch+g.n*(g.q*K):=by
 have h1:∀ i r,i<g.n->r<g.q->0<=bK g give V i r (ch i r)+K:=fun i r hi hr=>by
  unfold bK
  split
  ·omega
  ·have h2:=hok.el i r (ch i r).toNat hi hr (by have:=hc.lt i r hi hr;omega)
   have h3:=h0 _ h2.1
   omega
 have hadd:∀ (f:Nat->Int) (c:Int) (n:Nat),sAI (fun r=>f r+c) n=sAI f n+n*c:=fun f c n=>by
  induction n with
  | zero=>simp [sAI]
  | succ n ih=>unfold sAI;rw [ih,Int.natCast_add,Int.add_mul];omega
 have h2:∀ i,i<g.n->0<=(V i+sAI (fun r=>bK g give V i r (ch i r)) g.q)+g.q*K:=fun i hi=>by
  have h3:=zY (f:=fun r=>bK g give V i r (ch i r)+K) g.q fun r hr=>h1 i r hi hr
  rw [hadd] at h3
  have h4:=h0 i hi
  omega
 have h3:=zY (f:=fun i=>(V i+sAI (fun r=>bK g give V i r (ch i r)) g.q)+g.q*K) g.n h2
 rw [hadd] at h3
 exact h3
def spK (g:SpG) (give:Int) (V:Nat->Int) (i r:Nat) (c:Int):Nat->Int
 | 0=>c
 | k+1=>if bK g give V i r k<bK g give V i r (spK g give V i r c k) then k else spK g give V i r c k
def spI (g:SpG) (give:Int) (V:Nat->Int) (ch:Nat->Nat->Int) (i r:Nat):Int:=spK g give V i r (ch i r) (g.K i r)
theorem wM (g:SpG) (give:Int) (V:Nat->Int) (i r:Nat) (c:Int):∀ k,(spK g give V i r c k=c\/(0<=spK g give V i r c k/\spK g give V i r c k<k/\bK g give V i r (spK g give V i r c k)<bK g give V i r c))/\bK g give V i r (spK g give V i r c k)<=bK g give V i r c/\∀ j:Nat,j<k->bK g give V i r (spK g give V i r c k)<=bK g give V i r j
 | 0=>⟨.inl rfl,Int.le_refl _,fun j hj=>by omega⟩
 | k+1=>by
  obtain ⟨h1,h2,h3⟩:=wM g give V i r c k
  unfold spK
  split
  ·rename_i h
   refine ⟨.inr ⟨by omega,by omega,by omega⟩,by omega,fun j hj =>?_⟩
   by_cases e:j=k
   ·rw [e];exact Int.le_refl _
   ·have:=h3 j (by omega);omega
  ·rename_i h
   refine ⟨h1.imp id fun ⟨a,b,c⟩=>⟨a,by omega,c⟩,h2,fun j hj =>?_⟩
   by_cases e:j=k
   ·rw [e];omega
   ·exact h3 j (by omega)
theorem QF {g:SpG} {give:Int} {V:Nat->Int} {ch:Nat->Nat->Int} (hc:SpC g ch):SpN g give V ch (spI g give V ch):=by
 refine ⟨⟨fun i r hi hr =>?_,fun i r hi hr =>?_⟩,fun i r hi hr =>?_⟩
 ·rcases (wM g give V i r (ch i r) (g.K i r)).1 with h | h
  ·unfold spI;rw [h];exact hc.lt i r hi hr
  ·exact h.2.1
 ·rcases (wM g give V i r (ch i r) (g.K i r)).1 with h | h
  ·unfold spI;rw [h];exact hc.ge i r hi hr
  ·unfold spI;omega
 ·rcases (wM g give V i r (ch i r) (g.K i r)).1 with h | h
  ·exact .inl h
  ·exact .inr ⟨h.1,h.2.2⟩
inductive SpX (g:SpG) (give:Int):Nat->(Nat->Nat->Int)->(Nat->Int)->Prop
 | stop {ch:Nat->Nat->Int} {V:Nat->Int}:SpV g give ch V->(∀ i r,i<g.n->r<g.q->spI g give V ch i r=ch i r)->SpX g give 0 ch V
 | step {k:Nat} {ch:Nat->Nat->Int} {V W:Nat->Int}:SpV g give ch V->(∃ i r,i<g.n/\r<g.q/\spI g give V ch i r≠ch i r)->SpX g give k (spI g give V ch) W->SpX g give (k+1) ch W
theorem WZ {g:SpG} {K give:Int} (hok:EY g K) (hK:0<=K) (hg:0<=give):∀ (N:Nat) (ch:Nat->Nat->Int) (V:Nat->Int),(spM g give V ch+g.n*(g.q*K)).toNat<=N->SpC g ch->SpV g give ch V->∃ k W,SpX g give k ch W:=by
 intro N
 induction N with
 | zero =>
  intro ch V hN hc hV
  by_cases h:∃ i r,i<g.n/\r<g.q/\spI g give V ch i r≠ch i r
  ·exfalso
   have hn:=QF (give:=give) (V:=V) hc
   obtain ⟨V',h1,_,_,h3⟩:=hn.next hok hV
   have h4:=h3 h
   have h5:=WY hok hK hg h1.sup.pos hn.ok
   omega
  ·exact ⟨0,V,.stop hV fun i r hi hr=>Classical.byContradiction fun h1=>h ⟨i,r,hi,hr,h1⟩⟩
 | succ N ih =>
  intro ch V hN hc hV
  by_cases h:∃ i r,i<g.n/\r<g.q/\spI g give V ch i r≠ch i r
  ·have hn:=QF (give:=give) (V:=V) hc
   obtain ⟨V',h1,_,_,h3⟩:=hn.next hok hV
   have h4:=h3 h
   have h5:=WY hok hK hg h1.sup.pos hn.ok
   obtain ⟨k,W,hW⟩:=ih _ V' (by omega) hn.ok h1
   exact ⟨k+1,W,.step hV h hW⟩
  ·exact ⟨0,V,.stop hV fun i r hi hr=>Classical.byContradiction fun h1=>h ⟨i,r,hi,hr,h1⟩⟩
theorem SpX.fin {g:SpG} {give:Int} {n:Nat} {ch:Nat->Nat->Int} {V:Nat->Int} (h:SpX g give n ch V) (hc:SpC g ch):∃ ch',SpC g ch'/\SpV g give ch' V/\∀ i r k:Nat,i<g.n->r<g.q->k<g.K i r->bK g give V i r (ch' i r)<=bK g give V i r k:=by
 induction h with
 | @stop ch V h1 h2 =>
  refine ⟨ch,hc,h1,fun i r k hi hr hk =>?_⟩
  have h3:=(wM g give V i r (ch i r) (g.K i r)).2.2 k hk
  have h4:=h2 i r hi hr
  unfold spI at h4
  rwa [h4] at h3
 | @step _ ch V W h1 h2 h3 ih=>exact ih (QF hc).ok
theorem SpX.end {g:SpG} {a give K:Int} {gain:Nat->Nat->Nat->Int} {n:Nat} {ch:Nat->Nat->Int} {V:Nat->Int} (h:SpX g give n ch V) (hok:EY g K) (hK:0<=K) (hc:SpC g ch) (hw:∀ i r k,i<g.n->r<g.q->k<g.K i r->g.W i r k=a*gain i r k-1) :
  ql g.n (fun i r=>r<g.q/\g.may i r=true) (fun i r t w=>∃ k,k<g.K i r/\t=g.T i r k/\w=gain i r k) a give (g.n*K) V:=by
 obtain ⟨ch',h1,h2,h3⟩:=h.fin hc
 refine ⟨h2.sup.pos,?_,?_,fun i hi =>?_⟩
 ·rintro i r hi ⟨hr,hm⟩
  have h4:=EH h2.sup hi hr hm
  have h6:=h1.lt i r hi hr
  unfold bK at h4
  split at h4
  ·exact .inr h4
  ·have h5:=hw i r (ch' i r).toNat hi hr (by omega)
   rw [h5] at h4
   exact .inl ⟨_,_,⟨(ch' i r).toNat,by omega,rfl,rfl⟩,h4⟩
 ·intro i hi h0
  have key:∀ r,r<g.q->V i<=bK g give V i r (ch' i r)->∀ t w,(∃ k,k<g.K i r/\t=g.T i r k/\w=gain i r k)->V i<=a*w-1+V t:=by
   rintro r hr h4 t w ⟨k,hk,rfl,rfl⟩
   have h5:=h3 i r k hi hr hk
   have h6:=hw i r k hi hr hk
   have h7:bK g give V i r (k:Int)=g.W i r k+V (g.T i r k):=by
    unfold bK
    rw [if_neg (by omega),Int.toNat_natCast]
   omega
  rcases h2.tight hi h0 with ⟨c,⟨r,hr,hm,h4,h5⟩,h6⟩ | ⟨t,w,⟨r,hr,hm,h4,rfl,rfl⟩,h6⟩
  ·exact ⟨r,⟨hr,hm⟩,key r hr (by unfold bK;rw [if_pos h4];omega)⟩
  ·exact ⟨r,⟨hr,hm⟩,key r hr (by unfold bK;rw [if_neg (by omega)];exact h6)⟩
 ·rcases h2.gap hK (Ja hok h1) (fun v c _ ⟨_,_,_,_,e⟩=>e) i hi with h4 | h4
  ·exact .inl h4
  ·exact .inr h4.1
def yS (g:SpG) (give:Int) (ch:Nat->Nat->Int) (V:Nat->Int) (i:Nat) (b:Int):Nat->Int
 | 0=>b
 | r+1=>if g.may i r=true then max (yS g give ch V i b r) (bK g give V i r (ch i r)) else yS g give ch V i b r
def spB (g:SpG) (give:Int) (ch:Nat->Nat->Int):Nat->Nat->Int
 | 0,_=>0
 | k+1,i=>yS g give ch (spB g give ch k) i (spB g give ch k i) g.q
theorem yT (g:SpG) (give:Int) (ch:Nat->Nat->Int) (V:Nat->Int) (i:Nat) (b:Int):∀ q,b<=yS g give ch V i b q/\∀ r,r<q->g.may i r=true->bK g give V i r (ch i r)<=yS g give ch V i b q
 | 0=>⟨Int.le_refl _,fun r hr=>by omega⟩
 | q+1=>by
  obtain ⟨h1,h2⟩:=yT g give ch V i b q
  unfold yS
  split
  ·refine ⟨by omega,fun r hr hm =>?_⟩
   by_cases e:r=q
   ·subst e;omega
   ·have:=h2 r (by omega) hm;omega
  ·rename_i hn
   refine ⟨h1,fun r hr hm =>?_⟩
   by_cases e:r=q
   ·subst e;exact absurd hm hn
   ·exact h2 r (by omega) hm
theorem QG {g:SpG} {give:Int} {ch:Nat->Nat->Int} {V:Nat->Int} {i:Nat} {b c:Int} (hb:b<=c):∀ q,(∀ r,r<q->g.may i r=true->bK g give V i r (ch i r)<=c)->yS g give ch V i b q<=c
 | 0,_=>hb
 | q+1,h=>by
  have h1:=QG hb q fun r hr hm=>h r (by omega) hm
  unfold yS
  split
  ·rename_i hm
   have:=h q (by omega) hm
   omega
  ·exact h1
theorem Ov {g:SpG} {K give:Int} {ch:Nat->Nat->Int} (hok:EY g K) (hc:SpC g ch) {V:Nat->Int} (hV:SpV g give ch V):∀ k i,i<g.n->0<=spB g give ch k i/\spB g give ch k i<=V i
 | 0,i,hi=>⟨Int.le_refl _,hV.sup.pos i hi⟩
 | k+1,i,hi=>by
  have ih:=Ov hok hc hV k
  unfold spB
  refine ⟨Int.le_trans (ih i hi).1 (yT g give ch _ i _ g.q).1,QG (ih i hi).2 g.q fun r hr hm =>?_⟩
  exact Int.le_trans (nR hok (fun i hi=>(ih i hi).2) hi hr (hc.lt i r hi hr)) (EH hV.sup hi hr hm)
theorem YL {g:SpG} {K give:Int} {ch:Nat->Nat->Int} (hok:EY g K) (hc:SpC g ch) {V:Nat->Int} (hV:SpV g give ch V):∀ i,i<g.n->spB g give ch (g.n+1) i=V i:=by
 have hle:=Ov hok hc hV
 have up:∀ k i,i<g.n->spB g give ch k i=V i->spB g give ch (k+1) i=V i:=fun k i hi e=>by
  have h1:=(hle (k+1) i hi).2
  have h2:=(yT g give ch (spB g give ch k) i (spB g give ch k i) g.q).1
  unfold spB at h1 ⊢
  omega
 have h:=hV.rank (fun v t w hv ha=>(Ja hok hc v t w hv ha).1) (fun k i=>spB g give ch k i=V i) up (fun k i hi e =>?_) (fun k i c hi hf e =>?_) (fun k i t w hi ha e ih =>?_)
 ·exact fun i hi=>up g.n i hi (h i hi)
 ·have:=hle (k+1) i hi
  omega
 ·obtain ⟨r,hr,hm,h4,hcg⟩:=hf
  have h1:=(hle (k+1) i hi).2
  have h2:=(yT g give ch (spB g give ch k) i (spB g give ch k i) g.q).2 r hr hm
  unfold bK at h2
  rw [if_pos h4] at h2
  unfold spB at h1 ⊢
  omega
 ·obtain ⟨r,hr,hm,h4,rfl,rfl⟩:=ha
  have h1:=(hle (k+1) i hi).2
  have h2:=(yT g give ch (spB g give ch k) i (spB g give ch k i) g.q).2 r hr hm
  unfold bK at h2
  rw [if_neg (by omega)] at h2
  unfold spB at h1 ⊢
  rw [ih] at h2
  omega
def aG (ar:List (List (List Int))) (v:Nat):List (List Int):=ar.getD v []
def rD (e:List Int):Nat:=(e.getD 0 0).toNat
def arW (e:List Int):Int:=e.getD 1 0
def arC (cfl:List Bool) (v:Nat):Bool:=cfl.getD v false
structure qj (cfl:List Bool) (ar:List (List (List Int))) (K:Int):Prop where
 len:ar.length=cfl.length
 el:∀ v,v<cfl.length->∀ k,k<(aG ar v).length->∃ (t:Nat) (w:Int),(aG ar v).getD k []=[(t:Int),w]/\t<cfl.length /\ -K<=w/\w<=K
 bip:∀ v,v<cfl.length->arC cfl v=false->∀ k,k<(aG ar v).length->arC cfl (rD ((aG ar v).getD k []))=true
def arA (cfl:List Bool) (ar:List (List (List Int))) (ch:List Int) (v t:Nat) (w:Int):Prop :=
 (arC cfl v=false/\∃ k,k<(aG ar v).length/\t=rD ((aG ar v).getD k [])/\w=arW ((aG ar v).getD k [])) \/
 (arC cfl v=true/\0<=ch.getD v 0/\t=rD ((aG ar v).getD (ch.getD v 0).toNat [])/\w=arW ((aG ar v).getD (ch.getD v 0).toNat []))
def arF (cfl:List Bool) (ch:List Int) (great:Int) (v:Nat) (c:Int):Prop:=arC cfl v=true/\ch.getD v 0<0/\c=great
structure ACh (cfl:List Bool) (ar:List (List (List Int))) (ch:List Int):Prop where
 len:ch.length=cfl.length
 lt:∀ v,v<cfl.length->ch.getD v 0<(aG ar v).length
 ge:∀ v,v<cfl.length -> -1<=ch.getD v 0
structure ArV (cfl:List Bool) (ar:List (List (List Int))) (great:Int) (ch V:List Int):Prop where
 len:V.length=cfl.length
 lst:vC cfl.length (arA cfl ar ch) (arF cfl ch great) (fun v=>V.getD v 0)
theorem iO {e:List Int} {t:Nat} {w:Int} (h:e=[(t:Int),w]):rD e=t/\arW e=w:=by
 subst h
 exact ⟨by unfold rD;simp,rfl⟩
theorem qj.at {cfl:List Bool} {ar:List (List (List Int))} {K:Int} (h:qj cfl ar K) {v k:Nat} (hv:v<cfl.length) (hk:k<(aG ar v).length):rD ((aG ar v).getD k [])<cfl.length /\ -K<=arW ((aG ar v).getD k [])/\arW ((aG ar v).getD k [])<=K/\(aG ar v).getD k []=[(rD ((aG ar v).getD k []):Int),arW ((aG ar v).getD k [])]:=by
 obtain ⟨t,w,h1,h2,h3,h4⟩:=h.el v hv k hk
 obtain ⟨e1,e2⟩:=iO h1
 rw [e1,e2]
 exact ⟨h2,h3,h4,h1⟩
theorem zl {cfl:List Bool} {ar:List (List (List Int))} {K:Int} {ch:List Int} (h:qj cfl ar K) (hc:ACh cfl ar ch):∀ v t w,v<cfl.length->arA cfl ar ch v t w->t<cfl.length /\ -K<=w/\w<=K:=by
 rintro v t w hv (⟨_,k,hk,rfl,rfl⟩ | ⟨_,h0,rfl,rfl⟩)
 ·have:=h.at hv hk
  exact ⟨this.1,this.2.1,this.2.2.1⟩
 ·have h1:=hc.lt v hv
  have:=h.at hv (show (ch.getD v 0).toNat<_ by omega)
  exact ⟨this.1,this.2.1,this.2.2.1⟩
theorem eP {f:Nat->Int} {n v:Nat} (h:v<n):((List.range n).map f).getD v 0=f v:=by simp [h]
theorem rC.congr {n:Nat} {A:Nat->Nat->Int->Prop} {F:Nat->Int->Prop} {U U':Nat->Int} (h:rC n A F U) (hA:∀ v t w,v<n->A v t w->t<n) (e:∀ v,v<n->U' v=U v):rC n A F U' :=
 ⟨fun v hv=>by rw [e v hv];exact h.pos v hv,fun v t w hv ha=>by rw [e v hv,e t (hA v t w hv ha)];exact h.arc v t w hv ha,fun v c hv hc=>by rw [e v hv];exact h.flr v c hv hc⟩
theorem TD {cfl:List Bool} {ar:List (List (List Int))} {K great:Int} {ch:List Int} (h:qj cfl ar K) (hc:ACh cfl ar ch) {U:Nat->Int} (hU:rC cfl.length (arA cfl ar ch) (arF cfl ch great) U):∃ V,ArV cfl ar great ch V/\∀ v,v<cfl.length->V.getD v 0<=U v:=by
 have hA:=fun v t w hv ha=>(zl h hc v t w hv ha).1
 obtain ⟨V,h1,h2⟩:=Ip _ U (Nat.le_refl _) hU
 refine ⟨(List.range cfl.length).map V,⟨by simp,h1.sup.congr hA fun v hv=>eP hv,fun U' hU' v hv =>?_⟩,fun v hv =>?_⟩
 ·simp only [eP hv]
  exact h1.le U' hU' v hv
 ·rw [eP hv]
  exact h2 v hv
theorem Rk {cfl:List Bool} {ar:List (List (List Int))} {K great:Int} {ch:List Int} (h:qj cfl ar K) (hc:ACh cfl ar ch) (h1:∀ v,v<cfl.length->ch.getD v 0 = -1) (hK:0<=K) (hg:0<=great):∃ V,ArV cfl ar great ch V:=by
 have key:rC cfl.length (arA cfl ar ch) (arF cfl ch great) (fun v=>if arC cfl v=true then great else great+K):=by
  refine ⟨fun v hv=>by show 0<=ite _ _ _;split<;>omega,?_,?_⟩
  ·rintro v t w hv (⟨h3,k,hk,rfl,rfl⟩ | ⟨h3,h4,-,-⟩)
   ·have h5:=h.at hv hk
    show _+ite _ _ _<=ite _ _ _
    rw [h3,if_pos (h.bip v hv h3 k hk),if_neg (by simp)]
    omega
   ·rw [h1 v hv] at h4
    omega
  ·rintro v c hv ⟨h3,h4,rfl⟩
   show _<=ite _ _ _
   rw [if_pos h3]
   exact Int.le_refl _
 obtain ⟨V,h2,_⟩:=TD (great:=great) h hc key
 exact ⟨V,h2⟩
def arS (V:List Int) (e:List Int):Int:=max 0 (arW e+V.getD (rD e) 0)
structure ArN (cfl:List Bool) (ar:List (List (List Int))) (V ch ch':List Int):Prop where
 ok:ACh cfl ar ch'
 dif:∀ v,v<cfl.length->ch'.getD v 0=ch.getD v 0\/(arC cfl v=true/\0<=ch'.getD v 0/\arS V ((aG ar v).getD (ch'.getD v 0).toNat [])<V.getD v 0)
theorem ArN.next {cfl:List Bool} {ar:List (List (List Int))} {K great:Int} {V ch ch':List Int} (h:ArN cfl ar V ch ch') (hok:qj cfl ar K) (hV:ArV cfl ar great ch V):∃ V',ArV cfl ar great ch' V'/\(∀ v,v<cfl.length->V'.getD v 0<=V.getD v 0)/\∀ v,v<cfl.length->ch'.getD v 0≠ch.getD v 0->V'.getD v 0<V.getD v 0:=by
 classical
 have hs:=hV.lst.sup
 have key:rC cfl.length (arA cfl ar ch') (arF cfl ch' great) (fun v=>if ch'.getD v 0=ch.getD v 0 then V.getD v 0 else arS V ((aG ar v).getD (ch'.getD v 0).toNat [])):=by
  refine ⟨fun v hv =>?_,?_,?_⟩
  ·show 0<=ite _ _ _
   split
   ·exact hs.pos v hv
   ·unfold arS;omega
  ·intro v t w hv ha
   have ht:=(zl hok h.ok v t w hv ha).1
   have hle:(if ch'.getD t 0=ch.getD t 0 then V.getD t 0 else arS V ((aG ar t).getD (ch'.getD t 0).toNat []))<=V.getD t 0:=by
    split
    ·exact Int.le_refl _
    ·rename_i h4
     rcases h.dif t ht with h5 | ⟨_,_,h5⟩
     ·exact absurd h5 h4
     ·omega
   show w+ite _ _ _<=ite _ _ _
   by_cases he:ch'.getD v 0=ch.getD v 0
   ·rw [if_pos he]
    have ha':arA cfl ar ch v t w:=by
     rcases ha with h3 | ⟨h3,h4,h5,h6⟩
     ·exact .inl h3
     ·rw [he] at h4 h5 h6
      exact .inr ⟨h3,h4,h5,h6⟩
    have:=hs.arc v t w hv ha'
    omega
   ·rw [if_neg he]
    rcases h.dif v hv with h5 | ⟨h5,h6,h7⟩
    ·exact absurd h5 he
    ·rcases ha with ⟨h3,_⟩ | ⟨_,_,rfl,rfl⟩
     ·rw [h5] at h3;cases h3
     ·have h8:arW ((aG ar v).getD (ch'.getD v 0).toNat [])+V.getD (rD ((aG ar v).getD (ch'.getD v 0).toNat [])) 0<=arS V ((aG ar v).getD (ch'.getD v 0).toNat []):=by unfold arS;omega
      omega
  ·rintro v c hv ⟨h3,h4,rfl⟩
   show _<=ite _ _ _
   by_cases he:ch'.getD v 0=ch.getD v 0
   ·rw [if_pos he]
    exact hs.flr v _ hv ⟨h3,by rw [← he];exact h4,rfl⟩
   ·rcases h.dif v hv with h5 | ⟨_,h6,_⟩
    ·exact absurd h5 he
    ·omega
 obtain ⟨V',h1,h2⟩:=TD (great:=great) hok h.ok key
 refine ⟨V',h1,fun v hv =>?_,fun v hv hne =>?_⟩
 ·have h3:=h2 v hv
  split at h3
  ·exact h3
  ·rename_i h4
   rcases h.dif v hv with h5 | ⟨_,_,h5⟩
   ·exact absurd h5 h4
   ·omega
 ·have h3:=h2 v hv
  rw [if_neg hne] at h3
  rcases h.dif v hv with h5 | ⟨_,_,h5⟩
  ·exact absurd h5 hne
  ·omega
def ArE (cfl:List Bool) (ar:List (List (List Int))) (V:List Int):Prop:=∀ v,v<cfl.length->arC cfl v=true->∀ k,k<(aG ar v).length->V.getD v 0<=arS V ((aG ar v).getD k [])
def jX (V:List Int) (row:List (List Int)) (least c:Int):Nat->Int×Int
 | 0=>(least,c)
 | k+1=>if arS V (row.getD k [])<(jX V row least c k).1 then (arS V (row.getD k []),(k:Int)) else jX V row least c k
def jm (cfl:List Bool) (ar:List (List (List Int))) (V ch:List Int):List Int:=(List.range cfl.length).map fun v=>if arC cfl v=true then (jX V (aG ar v) (V.getD v 0) (ch.getD v 0) (aG ar v).length).2 else ch.getD v 0
inductive ArX (cfl:List Bool) (ar:List (List (List Int))) (great:Int):Nat->List Int->List Int->Prop
 | stop {ch V:List Int}:ArV cfl ar great ch V->jm cfl ar V ch=ch->ArX cfl ar great 0 ch V
 | step {k:Nat} {ch V W:List Int}:ArV cfl ar great ch V->jm cfl ar V ch≠ch->ArX cfl ar great k (jm cfl ar V ch) W->ArX cfl ar great (k+1) ch W
theorem uo (V:List Int) (row:List (List Int)) (least c:Int):∀ k,(jX V row least c k).1<=least/\((jX V row least c k).1=least->(jX V row least c k).2=c)/\(∀ j,j<k->(jX V row least c k).1<=arS V (row.getD j []))/\((jX V row least c k).1<least->∃ j,j<k/\(jX V row least c k).2=(j:Int)/\arS V (row.getD j [])=(jX V row least c k).1)
 | 0=>⟨Int.le_refl _,fun _=>rfl,fun j hj=>by omega,fun h=>by simp [jX] at h⟩
 | k+1=>by
  obtain ⟨h1,h2,h3,h4⟩:=uo V row least c k
  unfold jX
  by_cases h:arS V (row.getD k [])<(jX V row least c k).1
  ·rw [if_pos h]
   refine ⟨by simp only;omega,fun h5=>by simp only at h5;omega,fun j hj =>?_,fun _=>⟨k,by omega,rfl,rfl⟩⟩
   by_cases e:j=k
   ·subst e;exact Int.le_refl _
   ·have:=h3 j (by omega)
    simp only;omega
  ·rw [if_neg h]
   refine ⟨h1,h2,fun j hj =>?_,fun h5 =>?_⟩
   ·by_cases e:j=k
    ·subst e;omega
    ·exact h3 j (by omega)
   ·obtain ⟨j,hj,e⟩:=h4 h5
    exact ⟨j,by omega,e⟩
theorem um {cfl:List Bool} {ar:List (List (List Int))} {V ch:List Int} {v:Nat} (hv:v<cfl.length):(jm cfl ar V ch).getD v 0=if arC cfl v=true then (jX V (aG ar v) (V.getD v 0) (ch.getD v 0) (aG ar v).length).2 else ch.getD v 0:=eP hv
theorem Ia {cfl:List Bool} {ar:List (List (List Int))} {V ch:List Int} (hc:ACh cfl ar ch):ArN cfl ar V ch (jm cfl ar V ch):=by
 have hat:∀ v,v<cfl.length->(jm cfl ar V ch).getD v 0=ch.getD v 0\/(arC cfl v=true/\0<=(jm cfl ar V ch).getD v 0/\(jm cfl ar V ch).getD v 0<(aG ar v).length/\arS V ((aG ar v).getD ((jm cfl ar V ch).getD v 0).toNat [])<V.getD v 0):=by
  intro v hv
  rw [um hv]
  by_cases h:arC cfl v=true
  ·rw [if_pos h]
   obtain ⟨h1,h2,h3,h4⟩:=uo V (aG ar v) (V.getD v 0) (ch.getD v 0) (aG ar v).length
   rcases Int.lt_or_le (jX V (aG ar v) (V.getD v 0) (ch.getD v 0) (aG ar v).length).1 (V.getD v 0) with h5 | h5
   ·obtain ⟨j,hj,e1,e2⟩:=h4 h5
    right
    rw [e1,Int.toNat_natCast,e2]
    exact ⟨h,by omega,by omega,h5⟩
   ·exact .inl (h2 (by omega))
  ·rw [if_neg h];exact .inl rfl
 refine ⟨⟨by simp [jm],fun v hv =>?_,fun v hv =>?_⟩,fun v hv =>?_⟩
 ·rcases hat v hv with h | ⟨_,_,h,_⟩
  ·rw [h];exact hc.lt v hv
  ·exact h
 ·rcases hat v hv with h | ⟨_,h,_⟩
  ·rw [h];exact hc.ge v hv
  ·omega
 ·rcases hat v hv with h | ⟨h1,h2,_,h3⟩
  ·exact .inl h
  ·exact .inr ⟨h1,h2,h3⟩
theorem UZ {cfl:List Bool} {ar:List (List (List Int))} {V ch:List Int} (hV:∀ v,v<cfl.length->arC cfl v=true->∀ k,0<=ch.getD v 0->k=(ch.getD v 0).toNat->V.getD v 0<=arS V ((aG ar v).getD k [])) (h:jm cfl ar V ch=ch):ArE cfl ar V:=by
 intro v hv hcv k hk
 obtain ⟨h1,h2,h3,h4⟩:=uo V (aG ar v) (V.getD v 0) (ch.getD v 0) (aG ar v).length
 have h5:=um (ar:=ar) (V:=V) (ch:=ch) hv
 rw [h,if_pos hcv] at h5
 rcases Int.lt_or_le (jX V (aG ar v) (V.getD v 0) (ch.getD v 0) (aG ar v).length).1 (V.getD v 0) with h6 | h6
 ·obtain ⟨j,hj,e1,e2⟩:=h4 h6
  have h7:=hV v hv hcv j (by rw [h5,e1];omega) (by rw [h5,e1];omega)
  omega
 ·have h8:=h3 k hk
  omega
theorem ArV.old {cfl:List Bool} {ar:List (List (List Int))} {great:Int} {ch V:List Int} (h:ArV cfl ar great ch V) {v:Nat} (hv:v<cfl.length) (hcv:arC cfl v=true) (hk:0<=ch.getD v 0):V.getD v 0<=arS V ((aG ar v).getD (ch.getD v 0).toNat []):=by
 rcases Int.lt_or_le 0 (V.getD v 0) with h0 | h0
 ·rcases h.lst.tight hv h0 with ⟨c,⟨_,h3,_⟩,_⟩ | ⟨t,w,ha,h3⟩
  ·omega
  ·rcases ha with ⟨h4,_⟩ | ⟨_,_,rfl,rfl⟩
   ·rw [hcv] at h4;cases h4
   ·unfold arS
    omega
 ·unfold arS;omega
theorem Zo {cfl:List Bool} {ar:List (List (List Int))} {K great:Int} (hok:qj cfl ar K):∀ (N:Nat) (ch V:List Int),(sAI (fun v=>V.getD v 0) cfl.length).toNat<=N->ACh cfl ar ch->ArV cfl ar great ch V->∃ k W,ArX cfl ar great k ch W:=by
 intro N
 induction N with
 | zero =>
  intro ch V hN hc hV
  by_cases h:jm cfl ar V ch=ch
  ·exact ⟨0,V,.stop hV h⟩
  ·exfalso
   have hn:=Ia (V:=V) hc
   obtain ⟨V',h1,h2,h3⟩:=hn.next hok hV
   have hd:∃ v,v<cfl.length/\(jm cfl ar V ch).getD v 0≠ch.getD v 0:=Classical.byContradiction fun hx=>h (by
    refine List.ext_getElem (by rw [hn.ok.len,hc.len]) fun v h4 h5 =>?_
    have h6:¬ (jm cfl ar V ch).getD v 0≠ch.getD v 0:=fun h7=>hx ⟨v,by rw [← hc.len];exact h5,h7⟩
    simpa [List.getD_eq_getElem?_getD,h4,h5] using h6)
   obtain ⟨v,hv,hne⟩:=hd
   have h4:=tu (f:=fun v=>V'.getD v 0) (g:=fun v=>V.getD v 0) cfl.length h2 ⟨v,hv,h3 v hv hne⟩
   have h5:=zY (f:=fun v=>V'.getD v 0) cfl.length h1.lst.sup.pos
   omega
 | succ N ih =>
  intro ch V hN hc hV
  by_cases h:jm cfl ar V ch=ch
  ·exact ⟨0,V,.stop hV h⟩
  ·have hn:=Ia (V:=V) hc
   obtain ⟨V',h1,h2,h3⟩:=hn.next hok hV
   have hd:∃ v,v<cfl.length/\(jm cfl ar V ch).getD v 0≠ch.getD v 0:=Classical.byContradiction fun hx=>h (by
    refine List.ext_getElem (by rw [hn.ok.len,hc.len]) fun v h4 h5 =>?_
    have h6:¬ (jm cfl ar V ch).getD v 0≠ch.getD v 0:=fun h7=>hx ⟨v,by rw [← hc.len];exact h5,h7⟩
    simpa [List.getD_eq_getElem?_getD,h4,h5] using h6)
   obtain ⟨v,hv,hne⟩:=hd
   have h4:=tu (f:=fun v=>V'.getD v 0) (g:=fun v=>V.getD v 0) cfl.length h2 ⟨v,hv,h3 v hv hne⟩
   have h5:=zY (f:=fun v=>V'.getD v 0) cfl.length h1.lst.sup.pos
   obtain ⟨k,W,hW⟩:=ih _ V' (by omega) hn.ok h1
   exact ⟨k+1,W,.step hV h hW⟩
def moN (out:List Int) (row:List (List Int)) (m:Int):Nat->Int
 | 0=>m
 | k+1=>max (moN out row m k) (arW (row.getD k [])+out.getD (rD (row.getD k [])) 0)
def moV (cfl:List Bool) (ar:List (List (List Int))) (ch:List Int) (great:Int) (out:List Int) (v:Nat):Int :=
 if arC cfl v=false then moN out (aG ar v) (out.getD v 0) (aG ar v).length
 else if ch.getD v 0<0 then great else max (out.getD v 0) (arW ((aG ar v).getD (ch.getD v 0).toNat [])+out.getD (rD ((aG ar v).getD (ch.getD v 0).toNat [])) 0)
theorem NR (out:List Int) (row:List (List Int)) (m:Int):∀ k,m<=moN out row m k/\∀ j,j<k->arW (row.getD j [])+out.getD (rD (row.getD j [])) 0<=moN out row m k
 | 0=>⟨Int.le_refl _,fun j hj=>by omega⟩
 | k+1=>by
  obtain ⟨h1,h2⟩:=NR out row m k
  unfold moN
  refine ⟨by omega,fun j hj =>?_⟩
  by_cases e:j=k
  ·subst e;omega
  ·have:=h2 j (by omega);omega
theorem NS {out:List Int} {row:List (List Int)} {m b:Int} (hm:m<=b):∀ k,(∀ j,j<k->arW (row.getD j [])+out.getD (rD (row.getD j [])) 0<=b)->moN out row m k<=b
 | 0,_=>hm
 | k+1,h=>by
  have h1:=NS hm k fun j hj=>h j (by omega)
  have h2:=h k (by omega)
  unfold moN
  omega
structure Hl (cfl:List Bool) (V out:List Int):Prop where
 len:out.length=cfl.length
 ge:∀ v,v<cfl.length->0<=out.getD v 0
 le:∀ v,v<cfl.length->out.getD v 0<=V.getD v 0
theorem MB {cfl:List Bool} {ar:List (List (List Int))} {K great:Int} {ch V out:List Int} (hok:qj cfl ar K) (hc:ACh cfl ar ch) (hV:ArV cfl ar great ch V) (ho:Hl cfl V out) {v t:Nat} {w:Int} (hv:v<cfl.length) (ha:arA cfl ar ch v t w):w+out.getD t 0<=V.getD v 0:=by
 have h1:=hV.lst.sup.arc v t w hv ha
 have h2:=ho.le t (zl hok hc v t w hv ha).1
 have h1:w+V.getD t 0<=V.getD v 0:=h1
 omega
theorem ZH {cfl:List Bool} {ar:List (List (List Int))} {K great:Int} {ch V out:List Int} (hok:qj cfl ar K) (hc:ACh cfl ar ch) (hV:ArV cfl ar great ch V) (ho:Hl cfl V out) {v:Nat} (hv:v<cfl.length):moV cfl ar ch great out v<=V.getD v 0:=by
 unfold moV
 split
 ·rename_i h
  exact NS (ho.le v hv) _ fun j hj=>MB hok hc hV ho hv (.inl ⟨h,j,hj,rfl,rfl⟩)
 ·rename_i h
  have hcv:arC cfl v=true:=by simpa using h
  split
  ·rename_i h1
   exact hV.lst.sup.flr v great hv ⟨hcv,h1,rfl⟩
  ·rename_i h1
   have h2:=MB hok hc hV ho hv (.inr ⟨hcv,by omega,rfl,rfl⟩)
   have h3:=ho.le v hv
   omega
theorem Yh {cfl:List Bool} {ar:List (List (List Int))} {K great:Int} {ch V out:List Int} (hok:qj cfl ar K) (hc:ACh cfl ar ch) (hV:ArV cfl ar great ch V) (ho:Hl cfl V out) {v k:Nat} (hv:v<cfl.length) (h:arC cfl v=false) (hk:k<=(aG ar v).length):out.getD v 0<=moN out (aG ar v) (out.getD v 0) k/\moN out (aG ar v) (out.getD v 0) k<=V.getD v 0 :=
 ⟨(NR _ _ _ k).1,NS (ho.le v hv) _ fun j hj=>MB hok hc hV ho hv (.inl ⟨h,j,by omega,rfl,rfl⟩)⟩
theorem VZ {cfl:List Bool} {ar:List (List (List Int))} {great:Int} {ch V out:List Int} (hV:ArV cfl ar great ch V) (ho:Hl cfl V out) (h:∀ v,v<cfl.length->moV cfl ar ch great out v<=out.getD v 0):out=V:=by
 have hs:rC cfl.length (arA cfl ar ch) (arF cfl ch great) (fun v=>out.getD v 0):=by
  refine ⟨ho.ge,?_,?_⟩
  ·rintro v t w hv (⟨h1,k,hk,rfl,rfl⟩ | ⟨h1,h2,rfl,rfl⟩)
   ·have h3:=h v hv
    unfold moV at h3
    rw [if_pos h1] at h3
    exact Int.le_trans ((NR _ _ _ _).2 k hk) h3
   ·have h3:=h v hv
    unfold moV at h3
    rw [if_neg (by rw [h1];decide),if_neg (by omega)] at h3
    show _+out.getD _ 0<=out.getD v 0
    omega
  ·rintro v c hv ⟨h1,h2,rfl⟩
   have h3:=h v hv
   unfold moV at h3
   rw [if_neg (by rw [h1];decide),if_pos h2] at h3
   exact h3
 refine List.ext_getElem (by rw [ho.len,hV.len]) fun v hv hv' =>?_
 have hv2:v<cfl.length:=by rw [← ho.len];exact hv
 have h1:=hV.lst.le _ hs v hv2
 have h2:=ho.le v hv2
 simp only [List.getD_eq_getElem?_getD,List.getElem?_eq_getElem hv,List.getElem?_eq_getElem hv',Option.getD_some] at h1 h2
 omega
theorem Yq {cfl:List Bool} {V out:List Int} {v:Nat} {x:Int} (ho:Hl cfl V out) (hv:v<cfl.length) (h1:out.getD v 0<x) (h2:x<=V.getD v 0):Hl cfl V (out.set v x)/\sAI (fun u=>out.getD u 0) cfl.length<sAI (fun u=>(out.set v x).getD u 0) cfl.length:=by
 have hl:=ho.len
 have hat:∀ u,(out.set v x).getD u 0=if u=v then x else out.getD u 0:=fun u=>by
  simp only [List.getD_eq_getElem?_getD,List.getElem?_set]
  by_cases e:v=u
  ·subst e;simp [show v<out.length by omega]
  ·rw [if_neg e,if_neg fun e2=>e e2.symm]
 refine ⟨⟨by rw [List.length_set];exact hl,fun u hu =>?_,fun u hu =>?_⟩,tu _ (fun u hu =>?_) ⟨v,hv,?_⟩⟩
 ·rw [hat];split
  ·have:=ho.ge v hv;omega
  ·exact ho.ge u hu
 ·rw [hat];split
  ·rename_i e;subst e;exact h2
  ·exact ho.le u hu
 ·rw [hat];split
  ·rename_i e;subst e;omega
  ·exact Int.le_refl _
 ·rw [hat,if_pos rfl];exact h1
theorem Qo {cfl:List Bool} {V out:List Int} (ho:Hl cfl V out):sAI (fun u=>out.getD u 0) cfl.length<=sAI (fun u=>V.getD u 0) cfl.length:=Ey _ ho.le
end Go.Proofs.YtnblieajjclipaaGreat
