/- Holds of games, in plain: what the asks force each strategy to, and that no smaller ratio has a credit. Conditions: those that each names. -/
import Derived.Test.YtnblieajjclipaaGreatZForced
import Derived.Test.YtnblieajjclipaaGreatZOwM
set_option linter.all false
namespace Go.Proofs.YtnblieajjclipaaGreat
open Am
structure HoF (m s:List (List Int)) (g:GmT) (a b:Int) (asks debts delays:List Int):Prop where
 full:aU m s g
 al:asks.length=g.list.length
 r:∀ i,i<g.list.length->∃ r:Nat,asks.getD i 0=r/\r<s.length
 d0:∀ i,i<g.list.length->0<=debts.getD i 0/\debts.getD i 0<=1000000000000000
 e0:∀ i,i<g.list.length->0<=delays.getD i 0/\delays.getD i 0<=1000000000000000
 dl:debts.length=g.list.length
 el:delays.length=g.list.length
 ch:∀ i,i<g.list.length->∀ k,k<((g.ch.getD i []).getD (asks.getD i 0).toNat []).length->debts.getD (toC (((g.ch.getD i []).getD (asks.getD i 0).toNat []).getD k [])) 0<=aW a b (((g.ch.getD i []).getD (asks.getD i 0).toNat []).getD k [])+debts.getD i 0/\delays.getD (toC (((g.ch.getD i []).getD (asks.getD i 0).toNat []).getD k [])) 0+1<=(g.list.length:Int)*(aW a b (((g.ch.getD i []).getD (asks.getD i 0).toNat []).getD k [])+(((g.ch.getD i []).getD (asks.getD i 0).toNat []).getD k []).getD 3 0)+delays.getD i 0
theorem Xb {g:GmT} {tab:List Int} (h:kR g tab=true):tab.length=g.list.length/\∀ i,i<g.list.length->0<=tab.getD i 0/\tab.getD i 0<=1000000000000000:=by
 unfold kR at h
 rw [Bool.and_eq_true,beq_iff_eq,jS] at h
 exact ⟨h.1,fun i hi=>h.2 _ (by rw [getD_in (by omega)];exact List.getElem_mem _)⟩
theorem UY {m s:List (List Int)} {g:GmT} (hg:aU m s g) {a b:Int} {asks debts delays:List Int} (h:holdB s g a b asks debts delays=true):HoF m s g a b asks debts delays:=by
 obtain ⟨h1,h2,h3,h4⟩:=pJ.1 h
 have hal:asks.length=g.list.length:=by
  unfold iP at h1
  rw [Bool.and_eq_true,beq_iff_eq] at h1
  exact h1.1
 obtain ⟨d1,d2⟩:=Xb h2
 obtain ⟨e1,e2⟩:=Xb h3
 refine ⟨hg,hal,fun i hi =>?_,d2,e2,d1,e1,fun i hi k hk =>?_⟩
 ·obtain ⟨r,k1,k2,k3⟩:=qo hg h1 (i:=i) (by omega)
  have:=hg.c.len _ k2
  exact ⟨r,k1,by omega⟩
 ·have h5:=h4 i (by omega) k hk
  unfold lV at h5
  rw [Bool.not_eq_true',Bool.or_eq_false_iff,decide_eq_false_iff_not,decide_eq_false_iff_not] at h5
  omega
theorem Ko {m s:List (List Int)} {t:dD} {g:GmT} (hx:GmX m s t g) {x:Nat} (h0:g.list.getD 0 []=[(x:Int),0]) (hw:acE m s x t) {a b:Int} {asks debts delays:List Int} (h:HoF m s g a b asks debts delays) {q:List (List Int)} (hq:dP m s g q=true):∀ k,
  fA g q asks k<g.list.length/\lW t (cZ g q asks k)<t.list.length/\t.list.getD (iE g (fA g q asks k)) []=t.list.getD (lW t (cZ g q asks k)) []/\(∀ r∈cZ g q asks k,∃ r':Nat,r=r'/\r'<s.length) /\
  debts.getD (fA g q asks k) 0<=b*iW g q asks k-a*growS t 0 (cZ g q asks k)+debts.getD 0 0 /\
  delays.getD (fA g q asks k) 0+k<=(g.list.length:Int)*(b*iW g q asks k-a*growS t 0 (cZ g q asks k)+growS t 0 (cZ g q asks k))+delays.getD 0 0
 | 0=>by
  have hf:=hx.full
  refine ⟨hf.pos,hw.pos,?_,fun r hr=>by simp [cZ] at hr,?_,?_⟩
  ·show t.list.getD (iE g 0) []=t.list.getD 0 []
   unfold iE
   rw [h0]
   rfl
  ·show debts.getD 0 0<=b*0-a*0+debts.getD 0 0
   simp
  ·show delays.getD 0 0+((0:Nat):Int)<=(g.list.length:Int)*(b*0-a*0+0)+delays.getD 0 0
   simp
 | k+1=>by
  have hf:=hx.full
  obtain ⟨h1,h2,h3,h4,h5,h6⟩:=Ko hx h0 hw h hq k
  obtain ⟨r,hr1,hr2⟩:=h.r _ h1
  have ho:lW t (cZ g q asks (k+1))=((t.next.getD (lW t (cZ g q asks k)) []).getD r 0).toNat:=by
   show lW t (cZ g q asks k++[asks.getD (fA g q asks k) 0])=_
   unfold lW
   rw [List.foldl_append,hr1]
   rfl
  have hgs:growS t 0 (cZ g q asks (k+1))=growS t 0 (cZ g q asks k)+(t.grows.getD (lW t (cZ g q asks k)) []).getD r 0:=by
   show growS t 0 (cZ g q asks k++[asks.getD (fA g q asks k) 0])=_
   rw [vX,hr1]
   rfl
  have hat:fA g q asks (k+1)=pY g q (fA g q asks k) r:=by
   show pY g q (fA g q asks k) (asks.getD (fA g q asks k) 0)=_
   rw [hr1]
  have hsu:iW g q asks (k+1)=iW g q asks k+(iU g q (fA g q asks k) r).getD 2 0:=by
   show iW g q asks k+(iU g q (fA g q asks k) (asks.getD (fA g q asks k) 0).toNat).getD 2 0=_
   rw [hr1,Int.toNat_natCast]
  have hmem:∀ r'∈cZ g q asks (k+1),∃ r'':Nat,r'=r''/\r''<s.length:=fun r' hr'=>by
   have hr':r'∈cZ g q asks k++[asks.getD (fA g q asks k) 0]:=hr'
   rw [List.mem_append,List.mem_singleton] at hr'
   rcases hr' with hr' | rfl
   ·exact h4 r' hr'
   ·exact ⟨r,hr1,hr2⟩
  have hch:=h.ch _ h1
  rw [hr1,Int.toNat_natCast] at hch
  rw [hat,ho,hgs,hsu]
  generalize fA g q asks k=i at *
  generalize lW t (cZ g q asks k)=w at *
  generalize iW g q asks k=S at *
  generalize growS t 0 (cZ g q asks k)=Y at *
  obtain ⟨j,hs⟩:=EC hf hq h1 hr2
  have hj:j<((g.ch.getD i []).getD r []).length:=hs.lt
  obtain ⟨st,wi,b1,b2,b3⟩:=hx.at_ i h1
  obtain ⟨u,nx,to,c1,c2,c3,c4,c5⟩:=hx.choice h1 hr2 hj b1
  obtain ⟨k2,o1,o2,o3,o4⟩:=hw.x_.at_ w r h2 hr2
  have eo:iE g i=wi:=by unfold iE;rw [b1];rfl
  rw [eo] at h3
  obtain ⟨q1,q2⟩:=hch j hj
  have e1:iU g q i r=((g.ch.getD i []).getD r []).getD j []:=hs.eq
  rw [← e1] at c1 q1 q2
  have est:pY g q i r=to:=by
   unfold pY
   rw [Int.toNat_natCast,c1]
   simp
  have et:toC (iU g q i r)=to:=by unfold toC;rw [c1];simp
  have e3:(iU g q i r).getD 3 0=iM m s (t.list.getD wi []) r:=by rw [c1];rfl
  have eg:aW a b (iU g q i r)=b*(iU g q i r).getD 2 0-a*iM m s (t.list.getD wi []) r:=by
   unfold aW
   rw [e3]
  rw [et,eg] at q1 q2
  rw [e3] at q2
  rw [est,o1,Int.toNat_natCast]
  refine ⟨c2,o2,?_,hmem,?_,?_⟩
  ·rw [o3,← h3,← c5]
   unfold iE
   rw [c3]
   rfl
  ·rw [o4,← h3,Int.mul_add,Int.mul_add]
   omega
  ·rw [o4,← h3,Int.mul_add b,Int.mul_add a]
   generalize b*(iU g q i r).getD 2 0=v1 at *
   generalize iM m s (t.list.getD wi []) r=v2 at *
   generalize a*v2=v3 at *
   generalize b*S=v4 at *
   generalize a*Y=v5 at *
   have e:(g.list.length:Int)*(v4+v1-(v5+v3)+(Y+v2))=(g.list.length:Int)*(v4-v5+Y)+(g.list.length:Int)*(v1-v3+v2):=by rw [← Int.mul_add];congr 1;omega
   rw [e,Int.natCast_add]
   omega
theorem Rz {m s:List (List Int)} {g:GmT} {a b:Int} {asks debts delays:List Int} (h:HoF m s g a b asks debts delays) (ha:0<=a) (hb:1<=b) {p q:Int} (hp:0<=p) (hq:1<=q) (hlt:p*b<a*q) {C:Nat->Int} (hC:CrP g.list.length (rqR s) (gmE g p q) C):False:=by
 have hg:=h.full
 have hcl:=hg.clen
 obtain ⟨f,hf⟩:=Classical.axiomOfChoice (r:=fun i c=>i<g.list.length->toC c<g.list.length/\0<=c.getD 2 0/\0<=c.getD 3 0/\q*c.getD 2 0-p*c.getD 3 0+C (toC c)<=C i/\debts.getD (toC c) 0<=(b*c.getD 2 0-a*c.getD 3 0)+debts.getD i 0/\delays.getD (toC c) 0+1<=(g.list.length:Int)*(b*c.getD 2 0-a*c.getD 3 0+c.getD 3 0)+delays.getD i 0) fun i=>by
  by_cases hi:i<g.list.length
  ·obtain ⟨r,hr1,hr2⟩:=h.r i hi
   obtain ⟨t,w,⟨k,hk,rfl,rfl⟩,h1⟩:=hC.ok i r hi hr2
   have h2:=h.ch i hi k (by rw [hr1,Int.toNat_natCast];exact hk)
   rw [hr1,Int.toNat_natCast] at h2
   have hrow:=hg.c.row i r (by omega) hr2
   obtain ⟨k',u,c,d,e,e1,e2,e3,e4,e5,e6⟩:=hrow.el (((g.ch.getD i []).getD r []).getD k []) (by rw [getD_in hk];exact List.getElem_mem hk)
   refine ⟨((g.ch.getD i []).getD r []).getD k [],fun _=>⟨?_,?_,?_,h1,h2.1,h2.2⟩⟩
   ·rw [e];unfold toC;simpa using e1
   ·rw [e];exact e3
   ·rw [e];exact e5
  ·exact ⟨[],fun h=>absurd h hi⟩
 let pos:Nat->Nat:=fun k=>Nat.rec 0 (fun _ i=>toC (f i)) k
 let K:Nat->Int:=fun k=>Nat.rec 0 (fun j s=>s+(f (pos j)).getD 2 0) k
 let Y:Nat->Int:=fun k=>Nat.rec 0 (fun j s=>s+(f (pos j)).getD 3 0) k
 have key:∀ k,pos k<g.list.length/\0<=K k/\0<=Y k/\q*K k-p*Y k+C (pos k)<=C 0/\debts.getD (pos k) 0<=b*K k-a*Y k+debts.getD 0 0/\delays.getD (pos k) 0+k<=(g.list.length:Int)*(b*K k-a*Y k+Y k)+delays.getD 0 0:=fun k=>by
  induction k with
  | zero =>
   refine ⟨hg.pos,Int.le_refl _,Int.le_refl _,?_,?_,?_⟩
   ·show q*0-p*0+C 0<=C 0;simp
   ·show debts.getD 0 0<=b*0-a*0+debts.getD 0 0;simp
   ·show delays.getD 0 0+((0:Nat):Int)<=(g.list.length:Int)*(b*0-a*0+0)+delays.getD 0 0;simp
  | succ k ih =>
   obtain ⟨i1,i2,i3,i4,i5,i6⟩:=ih
   obtain ⟨j1,j2,j3,j4,j5,j6⟩:=hf (pos k) i1
   have e1:pos (k+1)=toC (f (pos k)):=rfl
   have e2:K (k+1)=K k+(f (pos k)).getD 2 0:=rfl
   have e3:Y (k+1)=Y k+(f (pos k)).getD 3 0:=rfl
   rw [e1,e2,e3]
   generalize (f (pos k)).getD 2 0=c at *
   generalize (f (pos k)).getD 3 0=d at *
   refine ⟨j1,by omega,by omega,?_,?_,?_⟩
   ·rw [Int.mul_add,Int.mul_add];omega
   ·rw [Int.mul_add,Int.mul_add];omega
   ·have e:(g.list.length:Int)*(b*(K k+c)-a*(Y k+d)+(Y k+d))=(g.list.length:Int)*(b*K k-a*Y k+Y k)+(g.list.length:Int)*(b*c-a*d+d):=by rw [← Int.mul_add];congr 1;rw [Int.mul_add,Int.mul_add];omega
    rw [e,Int.natCast_add]
    omega
 have hc0:=hC.pos 0 hg.pos
 have hd0:=(h.d0 0 hg.pos).1
 have he0:=(h.e0 0 hg.pos).1
 obtain ⟨M,hM⟩:∃ M,M=b*C 0+q*debts.getD 0 0:=⟨_,rfl⟩
 have bd:∀ k,Y k<=M/\K k<=p*M+C 0:=fun k=>by
  obtain ⟨i1,i2,i3,i4,i5,i6⟩:=key k
  have hCk:=hC.pos _ i1
  have hDk:=(h.d0 _ i1).1
  generalize K k=kk at *
  generalize Y k=yy at *
  have m1:=Int.mul_le_mul_of_nonneg_left (show q*kk-p*yy<=C 0 by omega) (show 0<=b by omega)
  have m2:=Int.mul_le_mul_of_nonneg_left (show a*yy-debts.getD 0 0<=b*kk by omega) (show 0<=q by omega)
  have n1:b*(q*kk-p*yy)=q*(b*kk)-(p*b)*yy:=by rw [Int.mul_sub,Int.mul_left_comm,← Int.mul_assoc b p,Int.mul_comm b p]
  have n2:q*(a*yy-debts.getD 0 0)=(a*q)*yy-q*debts.getD 0 0:=by rw [Int.mul_sub,← Int.mul_assoc,Int.mul_comm q a]
  rw [n1] at m1
  rw [n2] at m2
  have m3:yy<=(a*q)*yy-(p*b)*yy:=by
   rw [← Int.sub_mul]
   have:=Int.mul_le_mul_of_nonneg_right (show 1<=a*q-p*b by omega) i3
   rwa [Int.one_mul] at this
  have hy:yy<=M:=by omega
  refine ⟨hy,?_⟩
  have m4:=Int.mul_le_mul_of_nonneg_left hy hp
  have m5:=Int.mul_le_mul_of_nonneg_right hq i2
  rw [Int.one_mul] at m5
  omega
 have hn:=hg.pos
 obtain ⟨N,hN⟩:∃ N:Nat,(g.list.length:Int)*(b*(p*M+C 0)+M)+delays.getD 0 0<N:=⟨((g.list.length:Int)*(b*(p*M+C 0)+M)+delays.getD 0 0).toNat+1,by omega⟩
 obtain ⟨i1,i2,i3,i4,i5,i6⟩:=key N
 obtain ⟨b1,b2⟩:=bd N
 have hE:=(h.e0 _ i1).1
 have m1:=Int.mul_le_mul_of_nonneg_left b2 (show 0<=b by omega)
 have m2:=Int.mul_nonneg ha i3
 have m3:=Int.mul_le_mul_of_nonneg_left (show b*K N-a*Y N+Y N<=b*(p*M+C 0)+M by omega) (show (0:Int)<=g.list.length by omega)
 omega
end Go.Proofs.YtnblieajjclipaaGreat
namespace Go.Proofs.YtnblieajjclipaaGreat
open Go Go.RowKit Am
theorem WA {n:Nat} {rs:List Int} (h:lX n rs) (hl:rs.length<=60):seqB n rs=true:=by
 unfold seqB
 simp only [Bool.and_eq_true,decide_eq_true_eq]
 exact ⟨hl,jS.2 fun r hr=>by have:=h r hr;omega⟩
theorem Xc {a:Int×Int} (hf:frB a.1 a.2=true):Does Tryz.prog 25 [frA a,frA (1,10)] (.imm (.tup [frT (jw (a.1*10-a.2) (a.2*10)),blT (iL (a.1*10-a.2) (a.2*10))])):=by
 have h1:=(kK.1 hf).1
 exact OC (a:=a) (b:=(1,10)) (A:=a.1*10) (B:=a.2) (D:=a.2*10) ⟨hf,by rw [Int.mul_right_comm,← Int.mul_assoc,Int.mul_right_comm],by omega⟩ ⟨by decide,by show 1*(a.2*10)=a.2*10;omega,by omega⟩
theorem Xd {a:Int×Int} (hb:1<=a.2) (h:iL (a.1*10-a.2) (a.2*10)=true):1<=(jw (a.1*10-a.2) (a.2*10)).2/\(jw (a.1*10-a.2) (a.2*10)).1*a.2<a.1*(jw (a.1*10-a.2) (a.2*10)).2:=by
 have h1:=X8 (by omega) h
 have h2:=h1.MW
 have h3:=h1.eq
 generalize jw (a.1*10-a.2) (a.2*10)=l at *
 refine ⟨by omega,?_⟩
 have e1:l.1*(a.2*10)=l.1*a.2*10:=by rw [Int.mul_assoc]
 have e2:(a.1*10-a.2)*l.2=a.1*l.2*10-a.2*l.2:=by rw [Int.sub_mul,Int.mul_right_comm]
 have e3:0<a.2*l.2:=Int.mul_pos (by omega) (by omega)
 omega
structure RnF (m s:List (List Int)) (x:Int) (a:Int×Int) (asks debts delays:List Int) (q:List (List Int)) (k:Nat):Prop where
 fo:foB m s x asks q ((12*k:Nat):Int)=true
 tk:bH m s x (kX m s x asks q ((12*k:Nat):Int))=true
 sb:0<=jH m s x asks q ((12*k:Nat):Int)/\jH m s x asks q ((12*k:Nat):Int)<=7140
 lb:0<=lcV m s x (kX m s x asks q ((12*k:Nat):Int))/\lcV m s x (kX m s x asks q ((12*k:Nat):Int))<=10000
 e1:0<=a.2*jH m s x asks q ((12*k:Nat):Int)-a.1*lcV m s x (kX m s x asks q ((12*k:Nat):Int))+debts.getD 0 0
 e2:((12*k:Nat):Int)<=((gmQ m s x).1.list.length:Int)*(a.2*jH m s x asks q ((12*k:Nat):Int)-a.1*lcV m s x (kX m s x asks q ((12*k:Nat):Int))+lcV m s x (kX m s x asks q ((12*k:Nat):Int)))+delays.getD 0 0
theorem J9 {m s:List (List Int)} {x:Int} {a:Int×Int} {asks debts delays:List Int} (h:holdV m s x a asks debts delays=true):(gmQ m s x).2=false/\jA a=true/\holdB s (gmQ m s x).1 a.1 a.2 asks debts delays=true:=by
 unfold holdV at h
 rw [Bool.and_eq_true] at h
 obtain ⟨h1,h2⟩:=VQ h.1
 exact ⟨h1,h2,h.2⟩
theorem WC {m s:List (List Int)} {x:Int} {a:Int×Int} {asks debts delays:List Int} (hb:holdV m s x a asks debts delays=true) {q:List (List Int)} (hq:dP m s (gmQ m s x).1 q=true) {k:Nat} (hk:k<=5):RnF m s x a asks debts delays q k:=by
 obtain ⟨h1,h2,h3⟩:=J9 hb
 have hf:=fM h1
 have hH:=UY hf h3
 have hA:iP s (gmQ m s x).1 asks=true:=(pJ.1 h3).1
 have ht:=gV h1
 obtain ⟨hp,⟨y,rfl,hy⟩,-,-⟩:=qc ht
 obtain ⟨y',e,hk',hx,h0⟩:=Y1 h1
 obtain rfl:y=y':=by omega
 have ho:(jq m s y).2=false:=by
  rw [Nl ht] at h1
  unfold gm at h1
  cases ho:(jq m s y).2
  ·rfl
  ·rw [ho] at h1
   cases h1
 have hw:=ZM hp hy ho
 obtain ⟨r1,r2,r3,r4,r5,r6⟩:=Ko hx h0 hw hH hq (12*k)
 have hfo:foB m s (y:Int) asks q ((12*k:Nat):Int)=true:=by
  unfold foB
  rw [h1,hA,hq,gK.2 (by omega)]
  rfl
 have hout:kX m s (y:Int) asks q ((12*k:Nat):Int)=cZ (gmQ m s (y:Int)).1 q asks (12*k):=by unfold kX;rw [Int.toNat_natCast]
 have hcost:jH m s (y:Int) asks q ((12*k:Nat):Int)=iW (gmQ m s (y:Int)).1 q asks (12*k):=by unfold jH;rw [Int.toNat_natCast]
 have hrq:lX s.length (cZ (gmQ m s (y:Int)).1 q asks (12*k)):=fun r hr=>by
  obtain ⟨r',e1,e2⟩:=r4 r hr
  omega
 have hll:=qB (gmQ m s (y:Int)).1 q asks (12*k)
 have hT:bH m s (y:Int) (cZ (gmQ m s (y:Int)).1 q asks (12*k))=true:=by
  unfold bH at ht ⊢
  rw [Bool.and_eq_true] at ht ⊢
  refine ⟨ht.1,?_⟩
  exact WA hrq (by omega)
 have hlc:lcV m s (y:Int) (cZ (gmQ m s (y:Int)).1 q asks (12*k))=IC m s y (cZ (gmQ m s (y:Int)).1 q asks (12*k)):=by unfold lcV;rw [hT,Int.toNat_natCast];rfl
 have hog:=VY hp hy hw.x_ hw.pos hw.fst hw.tab.gr (least_0 hp hy) hw.el hrq (by omega)
 have hcb:=ZO hp hy hrq (by omega)
 have hsb:=xR hf hq hA (12*k)
 have hd0:=(hH.d0 _ r1).1
 have he0:=(hH.e0 _ r1).1
 refine ⟨hfo,by rw [hout];exact hT,by rw [hcost];omega,by rw [hout,hlc];exact hcb,?_,?_⟩
 ·rw [hcost,hout,hlc,hog]
  omega
 ·rw [hcost,hout,hlc,hog]
  omega
theorem SY {bs:List Int} (h:65536<(bs.length:Int)):Does Tryz.prog 4 [.lf (.b (.raw bs))] (.imm (.bool true)):=by
 refine aF Tryz.func4 rfl Tryz.ntmps4 aQ (fun _ _=>by kernel_rfl) rfl (Nat.le_of_ble_eq_true rfl) ?_
 intro M0 w0
 rw [Tryz.results4]
 refine ah ?_
 ((try refine Or.inl ?_);refine ⟨_,(Ee bs),.inl rfl,?_⟩;refine amC ?_)
 refine ah ?_
 refine aj amQ (fun h0 =>?_) (fun h0 =>?_)
 ·refine ah ?_
  refine bJ ?_
  rfl
 ·simp at h0;omega
set_option maxRecDepth 20000 in
set_option maxHeartbeats 4000000 in
theorem Xi {bs:List Int} {m s m2 s2 q:List (List Int)} {x x2:Int} {a:Int×Int} {A D E:List Int} (hsm:¬ 65536<(bs.length:Int)) (hD:Does Tryz.prog 16 [.lf (.b (.raw bs))] (.imm (hdR m s x a A D E))) (hE:Does Tryz.prog 19 [.lf (.b (.raw bs))] (.imm (isR m2 s2 x2 q))) (hb:holdV m s x a A D E=false):Does Tryz.prog 4 [.lf (.b (.raw bs))] (.imm (.bool true)):=by
 have hI:=uT m s x a A D E
 have hI2:=uZ m s x a A D E
 rw [hb] at hI hI2
 have hS:=nY m s x q
 have hS2:=oH m s x q
 generalize (!(gmQ m s x).2 && dP m s (gmQ m s x).1 q)=gd at *
 cases hq:(gmQ m s x).2
 ·have hP:=Y8 hq
  have hP2:=V9 hq
  have htw:=(fM hq).two
  rw [hq] at hS hS2
  generalize okB m s x a=ok at *
  generalize (gmQ m s x).1=g at *
  cases ok
  ·skip
   refine aF Tryz.func4 rfl Tryz.ntmps4 aQ (fun _ _=>by kernel_rfl) rfl (Nat.le_of_ble_eq_true rfl) ?_
   intro M0 w0
   rw [Tryz.results4]
   refine ah ?_
   ((try refine Or.inl ?_);refine ⟨_,(Ee bs),.inl rfl,?_⟩;refine amC ?_)
   refine ah ?_
   refine aj amQ (fun h0 =>?_) (fun h0 =>?_)
   ·simp at h0;omega
   refine ah ?_
   ((try refine Or.inl ?_);refine ⟨_,(hD),amF,?_⟩;refine amC ?_)
   refine ah ?_
   ((try refine Or.inl ?_);refine ⟨_,(hI),.inl rfl,?_⟩;refine amC ?_)
   refine ah ?_
   ((try refine Or.inl ?_);refine ⟨_,(hI2),.inl rfl,?_⟩;refine amC ?_)
   refine ah ?_
   refine aj amQ (fun h1 =>?_) (fun h1 =>?_)
   ·simp at h1
   refine ah ?_
   ((try refine Or.inl ?_);refine ⟨_,(hE),amF,?_⟩;refine amC ?_)
   refine ah ?_
   ((try refine Or.inl ?_);refine ⟨_,(hS),.inl rfl,?_⟩;refine amC ?_)
   refine ah ?_
   ((try refine Or.inl ?_);refine ⟨_,(hS2),.inl rfl,?_⟩;refine amC ?_)
   refine ah ?_
   refine aj amQ (fun h2 =>?_) (fun h2 =>?_)
   ·simp at h2
   refine ah ?_
   ((try refine Or.inl ?_);refine ⟨_,(hP),amF,?_⟩;refine amC ?_)
   refine ah ?_
   ((try refine Or.inl ?_);refine ⟨_,(hP2),amF,?_⟩;refine amC ?_)
   refine ah ?_
   ((try refine Or.inl ?_);refine ⟨_,(fun _=>yI g.list htw),.inl rfl,?_⟩;refine amC ?_)
   refine ah ?_
   refine aj amQ (fun h3 =>?_) (fun h3 =>?_)
   ·simp at h3
   refine ah ?_
   refine aj amQ (fun h4 =>?_) (fun h4 =>?_)
   ·refine ah ?_
    refine bJ ?_
    rfl
   ·cases h4
  ·skip
   refine aF Tryz.func4 rfl Tryz.ntmps4 aQ (fun _ _=>by kernel_rfl) rfl (Nat.le_of_ble_eq_true rfl) ?_
   intro M0 w0
   rw [Tryz.results4]
   refine ah ?_
   ((try refine Or.inl ?_);refine ⟨_,(Ee bs),.inl rfl,?_⟩;refine amC ?_)
   refine ah ?_
   refine aj amQ (fun h0 =>?_) (fun h0 =>?_)
   ·simp at h0;omega
   refine ah ?_
   ((try refine Or.inl ?_);refine ⟨_,(hD),amF,?_⟩;refine amC ?_)
   refine ah ?_
   ((try refine Or.inl ?_);refine ⟨_,(hI),.inl rfl,?_⟩;refine amC ?_)
   refine ah ?_
   ((try refine Or.inl ?_);refine ⟨_,(hI2),.inl rfl,?_⟩;refine amC ?_)
   refine ah ?_
   refine aj amQ (fun h1 =>?_) (fun h1 =>?_)
   ·simp at h1
   refine ah ?_
   ((try refine Or.inl ?_);refine ⟨_,(hE),amF,?_⟩;refine amC ?_)
   refine ah ?_
   ((try refine Or.inl ?_);refine ⟨_,(hS),.inl rfl,?_⟩;refine amC ?_)
   refine ah ?_
   ((try refine Or.inl ?_);refine ⟨_,(hS2),.inl rfl,?_⟩;refine amC ?_)
   refine ah ?_
   refine aj amQ (fun h2 =>?_) (fun h2 =>?_)
   ·simp at h2
   refine ah ?_
   ((try refine Or.inl ?_);refine ⟨_,(hP),amF,?_⟩;refine amC ?_)
   refine ah ?_
   ((try refine Or.inl ?_);refine ⟨_,(hP2),amF,?_⟩;refine amC ?_)
   refine ah ?_
   ((try refine Or.inl ?_);refine ⟨_,(fun _=>yI g.list htw),.inl rfl,?_⟩;refine amC ?_)
   refine ah ?_
   refine aj amQ (fun h3 =>?_) (fun h3 =>?_)
   ·simp at h3
   refine ah ?_
   refine aj amQ (fun h4 =>?_) (fun h4 =>?_)
   ·refine ah ?_
    refine bJ ?_
    rfl
   ·cases h4
 ·have hP:=pos_0 hq
  have hP2:=ZQ hq
  have hok:okB m s x a=false:=by unfold okB;rw [hq];rfl
  rw [hok] at hI hI2
  rw [hq] at hS hS2
  refine aF Tryz.func4 rfl Tryz.ntmps4 aQ (fun _ _=>by kernel_rfl) rfl (Nat.le_of_ble_eq_true rfl) ?_
  intro M0 w0
  rw [Tryz.results4]
  refine ah ?_
  ((try refine Or.inl ?_);refine ⟨_,(Ee bs),.inl rfl,?_⟩;refine amC ?_)
  refine ah ?_
  refine aj amQ (fun h0 =>?_) (fun h0 =>?_)
  ·simp at h0;omega
  refine ah ?_
  ((try refine Or.inl ?_);refine ⟨_,(hD),amF,?_⟩;refine amC ?_)
  refine ah ?_
  ((try refine Or.inl ?_);refine ⟨_,(hI),.inl rfl,?_⟩;refine amC ?_)
  refine ah ?_
  ((try refine Or.inl ?_);refine ⟨_,(hI2),.inl rfl,?_⟩;refine amC ?_)
  refine ah ?_
  refine aj amQ (fun h1 =>?_) (fun h1 =>?_)
  ·simp at h1
  refine ah ?_
  ((try refine Or.inl ?_);refine ⟨_,(hE),amF,?_⟩;refine amC ?_)
  refine ah ?_
  ((try refine Or.inl ?_);refine ⟨_,(hS),.inl rfl,?_⟩;refine amC ?_)
  refine ah ?_
  ((try refine Or.inl ?_);refine ⟨_,(hS2),.inl rfl,?_⟩;refine amC ?_)
  refine ah ?_
  refine aj amQ (fun h2 =>?_) (fun h2 =>?_)
  ·simp at h2
  refine ah ?_
  ((try refine Or.inl ?_);refine ⟨_,(hP),.inl rfl,?_⟩;refine amC ?_)
  refine ah ?_
  ((try refine Or.inl ?_);refine ⟨_,(hP2),amF,?_⟩;refine amC ?_)
  refine ah ?_
  ((try refine Or.inl ?_);refine ⟨_,(fun _=>V4),.inl rfl,?_⟩;refine amC ?_)
  refine ah ?_
  refine aj amQ (fun h3 =>?_) (fun h3 =>?_)
  ·simp at h3
  refine ah ?_
  refine aj amQ (fun h4 =>?_) (fun h4 =>?_)
  ·refine ah ?_
   refine bJ ?_
   rfl
  ·cases h4
abbrev bxH (a:Int×Int):Ob := .box [.b (.val (.int .i64 a.1)),.b (.val (.int .i64 a.2))]
theorem zH (m s:List (List Int)) (x:Int) (asks:List Int) (q:List (List Int)) (n:Int) (hb:foB m s x asks q n=true):Does Tryz.prog 27 [prA m s,.int x,.sl (.ints asks),.sl (.ii q),.int n] (.imm (.tup [.one (.b (.sl (.ints (kX m s x asks q n)))),.one (.b (.val (.int .i64 (jH m s x asks q n)))),bT true])):=nG (zG m s x asks q n hb)
set_option maxRecDepth 20000 in
set_option maxHeartbeats 4000000 in
theorem S9 {bs:List Int} {m s m2 s2 q:List (List Int)} {x x2:Int} {a:Int×Int} {A D E:List Int} (hsm:¬ 65536<(bs.length:Int)) (hD:Does Tryz.prog 16 [.lf (.b (.raw bs))] (.imm (hdR m s x a A D E))) (hE:Does Tryz.prog 19 [.lf (.b (.raw bs))] (.imm (isR m2 s2 x2 q))) (hb:holdV m s x a A D E=true):Does Tryz.prog 4 [.lf (.b (.raw bs))] (.imm (.bool true)):=by
 have hI:=uT m s x a A D E
 have hI2:=uZ m s x a A D E
 obtain ⟨hq,hra,hh⟩:=J9 hb
 have hok:okB m s x a=true:=by unfold okB;rw [hq,hra];rfl
 rw [hb,hok] at hI hI2
 have hS:=nY m s x q
 have hS2:=oH m s x q
 rw [hq] at hS hS2
 have hP:=Y8 hq
 have hP2:=V9 hq
 have hf:=fM hq
 have htw:=hf.two
 have hle:=hf.le
 have hpos:=hf.pos
 have hH:=UY hf hh
 have hdl:=hH.dl
 have hel:=hH.el
 have hd0:=hH.d0 0 hpos
 have he0:=hH.e0 0 hpos
 obtain ⟨ra1,ra2,ra3,ra4⟩:=Ef hra
 have hfr:frB a.1 a.2=true:=by
  unfold jA at hra
  rw [Bool.and_eq_true] at hra
  exact hra.1
 have hL:=Xc hfr
 have hLl:=Xd (a:=a) ra3
 have hF0:∀ l:Int×Int,0<=l.1->1<=l.2->l.1*a.2<a.1*l.2->Does Tryz.prog 26 [prA m s,.int x,frA l] (.imm (.tup [.one (.b (.val (.slice none 0 0))),.one (.b (.val (.bool false)))])):=fun l k1 k2 k3=>x9 m s x l (by
  cases hc:fcB m s x l
  ·rfl
  ·obtain ⟨_,C,hC⟩:=ZA hc
   exact (Rz hH ra1 ra3 k1 k2 k3 hC).elim)
 have hrun:dP m s (gmQ m s x).1 q=true->∀ k,k<=5->RnF m s x a A D E q k:=fun h k hk=>WC hb h hk
 generalize jw (a.1*10-a.2) (a.2*10)=l at *
 generalize iL (a.1*10-a.2) (a.2*10)=cl at *
 generalize hgd:dP m s (gmQ m s x).1 q=gd at *
 refine aF Tryz.func4 rfl Tryz.ntmps4 aQ (fun _ _=>by kernel_rfl) rfl (Nat.le_of_ble_eq_true rfl) ?_
 intro M0 w0
 rw [Tryz.results4]
 refine ah ?_
 ((try refine Or.inl ?_);refine ⟨_,(Ee bs),.inl rfl,?_⟩;refine amC ?_)
 refine ah ?_
 refine aj amQ (fun h0 =>?_) (fun h0 =>?_)
 ·simp at h0;omega
 refine ah ?_
 ((try refine Or.inl ?_);refine ⟨_,(hD),amF,?_⟩;refine amC ?_)
 refine ah ?_
 ((try refine Or.inl ?_);refine ⟨_,(hI),.inl rfl,?_⟩;refine amC ?_)
 refine ah ?_
 ((try refine Or.inl ?_);refine ⟨_,(hI2),.inl rfl,?_⟩;refine amC ?_)
 refine ah ?_
 refine aj amQ (fun h1 =>?_) (fun h1 =>?_)
 ·simp at h1
 refine ah ?_
 ((try refine Or.inl ?_);refine ⟨_,(hE),amF,?_⟩;refine amC ?_)
 refine ah ?_
 ((try refine Or.inl ?_);refine ⟨_,(hS),.inl rfl,?_⟩;refine amC ?_)
 refine ah ?_
 ((try refine Or.inl ?_);refine ⟨_,(hS2),.inl rfl,?_⟩;refine amC ?_)
 refine ah ?_
 refine aj amQ (fun h2 =>?_) (fun h2 =>?_)
 ·simp at h2
 refine ah ?_
 ((try refine Or.inl ?_);refine ⟨_,(hP),amF,?_⟩;refine amC ?_)
 refine ah ?_
 ((try refine Or.inl ?_);refine ⟨_,(hP2),amF,?_⟩;refine amC ?_)
 refine ah ?_
 ((try refine Or.inl ?_);refine ⟨_,(fun _=>yI (gmQ m s x).1.list htw),.inl rfl,?_⟩;refine amC ?_)
 refine ah ?_
 refine aj amQ (fun h3 =>?_) (fun h3 =>?_)
 ·simp at h3
 refine ah ?_
 refine aj amQ (fun h4 =>?_) (fun h4 =>?_)
 ·cases h4
 refine ah ?_
 ((try refine Or.inl ?_);refine ⟨_,(hL),amF,?_⟩;refine amC ?_)
 refine ah ?_
 refine Bf [] [0,3,4,5,6,7,8,15,16,20] [.box [.b (.sl (.ii m)),.b (.sl (.ii s))],bxH a,.box [.b (.sl (.ii m2)),.b (.sl (.ii s2))],bxH l] ?_ ?_
 ·refine aj amQ (fun h5 =>?_) (fun h5 =>?_)
  ·have h5':cl=true/\0<=l.1:=by
    cases cl
    ·cases h5
    ·exact ⟨rfl,of_decide_eq_true h5⟩
   obtain ⟨k1,k2⟩:=hLl h5'.1
   refine ah ?_
   ((try refine Or.inl ?_);refine ⟨_,(hF0 l h5'.2 k1 k2),.inl rfl,?_⟩;refine amC ?_)
   refine ah ?_
   refine aj amQ (fun h6 =>?_) (fun h6 =>?_)
   ·cases h6
   refine ah ?_
   refine .inl ?_
   exact bW
  ·refine ah ?_
   refine .inl ?_
   exact bW
 simp only [xr,simprocAttr]
 refine ah ?_
 have hl0:0<D.length:=by omega
 have hl1:0<E.length:=by omega
 have hE2:=fun n=>Ad m s x A q n
 have hF2:=fun n=>zH m s x A q n
 have hC:=fun rs=>zI m s x rs
 refine aA (α:=Nat) (fun k=>[(28,true,.int ((12*k:Nat):Int))]) [0,3,4,5,6,7,8,15,16,20] (fun _=>[.box [.b (.sl (.ii m)),.b (.sl (.ii s))],bxH a,.box [.b (.sl (.ii m2)),.b (.sl (.ii s2))],bxH l]) (fun k=>k<=6) (fun k=>6-k) 0 (by exact bW) (Nat.zero_le _) fun k hk =>?_
 simp only [xr,simprocAttr]
 refine ah ?_
 refine aj amQ (fun h7 =>?_) (fun h7 =>?_)
 ·cases gd
  ·cases h7
  have hk5:k<=5:=by
   have:=of_decide_eq_true h7
   omega
  obtain ⟨fo,tk,sb,lb,e1,e2⟩:=hrun rfl k hk5
  have hf1:=hF2 _ fo
  have hf2:=hE2 ((12*k:Nat):Int)
  rw [fo,if_pos rfl,if_pos rfl] at hf2
  have hf3:=hC (kX m s x A q ((12*k:Nat):Int))
  rw [tk] at hf3
  generalize kX m s x A q ((12*k:Nat):Int)=us at *
  generalize jH m s x A q ((12*k:Nat):Int)=S at *
  generalize lcV m s x us=C at *
  have q1:=Int.mul_nonneg (show 0<=a.2 by omega) sb.1
  have q2:=Int.mul_le_mul (show a.2<=100000 by omega) sb.2 sb.1 (by decide)
  have q3:=Int.mul_nonneg (show 0<=a.1 by omega) lb.1
  have q4:=Int.mul_le_mul (show a.1<=100000000 by omega) lb.2 lb.1 (by decide)
  have q5:=Bz (n:=((gmQ m s x).1.list.length:Int)) (x:=a.2*S-a.1*C+C) (B:=2000000000000) (by omega) (by omega) (by omega) (by omega) (by omega)
  refine ah ?_
  ((try refine Or.inl ?_);refine ⟨_,(hf1),amF,?_⟩;refine amC ?_)
  refine ah ?_
  ((try refine Or.inl ?_);refine ⟨_,(hf2),amF,?_⟩;refine amC ?_)
  refine ah ?_
  ((try refine Or.inl ?_);refine ⟨_,(YA us),.inl rfl,?_⟩;refine amC ?_)
  refine ah ?_
  refine aj amQ (fun h8 =>?_) (fun h8 =>?_)
  ·simp at h8
  refine ah ?_
  ((try refine Or.inl ?_);refine ⟨_,(hf3),amF,?_⟩;refine amC ?_)
  refine ah ?_
  refine aj amQ (fun h9 =>?_) (fun h9 =>?_)
  ·rw [show decide (a.2*S-a.1*C+D.getD 0 0<0)=false from decide_eq_false (by omega)] at h9
   have h9:=of_decide_eq_true h9
   omega
  refine ah ?_
  refine ⟨k+1,by omega,by omega,.inl ?_⟩
  exact bW
 ·refine ah ?_
  refine bJ ?_
  rfl
end Go.Proofs.YtnblieajjclipaaGreat
