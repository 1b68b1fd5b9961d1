/- A region in whatever order that reads, and holds one call that hands memory back. Conditions: those that each names. -/
import Derived.Test.YtnblieajjclipaaGreatMC
set_option linter.all false
namespace Go.Proofs.YtnblieajjclipaaGreat
namespace Am
open Go Go.RowKit
def Lf.nm:Lf->Option Nat
 | .own i=>some i
 | .ptr i _=>some i
 | .oa i _ _ _=>some i
 | _=>none
def UE (s:Nat) (x:AV):Prop:=∀ y∈x.leaves,y.nm≠some s
def nJ:Ob->List Lf
 | .box cs=>cs
 | .hole _ _ _ _ x=>[x]
 | .cut _ _ _ _ x=>[x]
 | _=>[]
def YX (s:Nat) (o:Ob):Prop:=∀ y∈nJ o,y.nm≠some s
def Df (s:Nat) (T:Tm):Prop:=∀ t,UE s (T t).2
def JY (s:Nat) (H:List Ob):Prop:=∀ (i:Nat) (o:Ob),H[i]? = some o->YX s o
theorem Bl {n s:Nat} (h:n<=s) {y:Lf} (hy:y.ltB n=true):y.nm≠some s:=fun e=>by
 cases y<;>simp only [Lf.nm,Option.some.injEq,reduceCtorEq] at e<;>simp [Lf.ltB] at hy<;>omega
theorem Qc {n s:Nat} (h:n<=s) {x:AV} (hx:x.lt n):UE s x:=fun y hy=>Bl h (hx y hy)
theorem Qk {n s:Nat} (h:n<=s) {o:Ob} (ho:o.lt n):YX s o:=by
 cases o with
 | box cs=>exact fun y hy=>Bl h (ho y hy)
 | hole e es c k x=>exact fun y hy=>Bl h (by simp [nJ] at hy;rw [hy];exact ho)
 | cut e e2 c k x=>exact fun y hy=>Bl h (by simp [nJ] at hy;rw [hy];exact ho)
 | _=>intro y hy;simp [nJ] at hy
theorem Qg {n s:Nat} {y:Lf} (hy:y.ltB n=true) (hs:y.nm≠some s):y.mv s n=y:=by
 have key:∀ j,j<n->j≠s->Nat.beq j n=false/\Nat.beq j s=false:=fun j h1 h2=>by
  constructor
  ·rw [Bool.eq_false_iff];exact fun h=>by have:=Nat.eq_of_beq_eq_true h;omega
  ·rw [Bool.eq_false_iff];exact fun h=>h2 (Nat.eq_of_beq_eq_true h)
 cases y with
 | own j=>obtain ⟨h1,h2⟩:=key j (by simpa [Lf.ltB] using hy) (fun e=>hs (by rw [e];rfl));simp only [Lf.mv,h1,h2,cond_false]
 | ptr j o=>obtain ⟨h1,h2⟩:=key j (by simpa [Lf.ltB] using hy) (fun e=>hs (by rw [e];rfl));simp only [Lf.mv,h1,h2,cond_false]
 | oa j w k o=>obtain ⟨h1,h2⟩:=key j (by simpa [Lf.ltB] using hy) (fun e=>hs (by rw [e];rfl));simp only [Lf.mv,h1,h2,cond_false]
 | _=>rfl
theorem DR {f:Lf->Lf} {xs:List Lf} (h:∀ y∈xs,f y=y):xs.map f=xs:=by
 refine List.ext_getElem (by simp) fun i h1 h2 =>?_
 rw [List.getElem_map]
 exact h _ (List.getElem_mem h2)
theorem TV.map_eq {f:Lf->Lf} {x:TV} (h:∀ y∈x.leaves,f y=y):x.map f=x:=by
 cases x with
 | one x=>simp only [TV.map,h x (by simp [TV.leaves])]
 | agg xs=>show TV.agg (xs.map f)=_;rw [DR (xs:=xs) h]
theorem AV.map_eq {f:Lf->Lf} {x:AV} (h:∀ y∈x.leaves,f y=y):x.map f=x:=by
 cases x with
 | tv x=>simp only [AV.map,TV.map_eq h]
 | clo g xs=>show AV.clo g (xs.map f)=_;rw [DR (xs:=xs) h]
 | tup xs =>
  simp only [AV.map,AV.tup.injEq]
  refine List.ext_getElem (by simp) fun i h1 h2 =>?_
  rw [List.getElem_map]
  exact TV.map_eq fun y hy=>h y (List.mem_flatMap.2 ⟨_,List.getElem_mem h2,hy⟩)
theorem Ob.map_eq {f:Lf->Lf} {o:Ob} (h:∀ y∈nJ o,f y=y):o.map f=o:=by
 cases o with
 | box cs=>show Ob.box (cs.map f)=_;rw [DR (xs:=cs) h]
 | hole e es c k x=>simp only [Ob.map,h x (by simp [nJ])]
 | cut e e2 c k x=>simp only [Ob.map,h x (by simp [nJ])]
 | _=>rfl
theorem Y5 {n s:Nat} (hs:s<n) {y:Lf} (hy:y.ltB (n+1)=true):(y.mv s n).ltB n=true:=by
 have key:∀ j,j<n+1->Nat.beq j n=false->j<n:=fun j h1 h2=>by
  have:j≠n:=fun e=>by rw [e,Nat.beq_refl] at h2;cases h2
  omega
 cases y with
 | own j=>simp only [Lf.mv];cases e:Nat.beq j n<;>cases Nat.beq j s<;>simp [Lf.ltB] at hy ⊢<;>first | exact hs | exact key j (by omega) e
 | ptr j o=>simp only [Lf.mv];cases e:Nat.beq j n<;>cases Nat.beq j s<;>simp [Lf.ltB] at hy ⊢<;>first | exact hs | exact key j (by omega) e
 | oa j w k o=>simp only [Lf.mv];cases e:Nat.beq j n<;>cases Nat.beq j s<;>simp [Lf.ltB] at hy ⊢<;>first | exact hs | exact key j (by omega) e
 | _=>rfl
section
variable {P:Program} {cf:Cfg} {b:Base} {N:Nat} {φ:Nat->Value} {β:Nat->Nat->Prop} {M:Mem} {T:Tm} {H H2:List Ob} {a:Act} {w w':World} {o:Oper}
section
variable {Q:Exit->Act->World->Prop}
theorem Uc (h:RA P cf b N φ β M ⟨T,H⟩ a w) (hd:o.dst.all (Nat.blt · N)=true) {t e:Nat} {x y:Operand} (ho:o.op = .call { callee := .builtin .append,args:=#[x,y],argTypes:=#[t,t] }) (ht:cf.ty t = .slice e) (hz:cf.sz e≠0) {i:Nat} {c c2 c':Cn}
  (hx:look T x=(true,.lf (.own i))) (hi:H[i]? = some (.row e c)) {v:AV} (hy:look T y=(true,v)) (hc:content H v=some c2) (hw:c.w=cf.sz e) (h0:c2.len=0) (hap:c.app c2=some c') (hn:c.len+c2.len<=1073741824) (hby:cf.bytes e<=4096)
  {K:Act->World->Prop} (hK:∀ φ' β' a' w',RA P cf b N φ' β' M ⟨T.put o.dst (true,.lf (.own H.length)),(H.set i .gone)++[.row e c']⟩ a' w'->K a' w'):o.wp P a w K Q:=by
 obtain ⟨inf,hinf,hsz,hbt,z,hz1,hz2,hz3⟩:=h.cf.info e hz
 have hty:=h.cf.ty t
 rw [ht] at hty
 have hrx:a.eval x=φ i:=by have:=h.ctx.t x (by rw [hx]);rw [hx] at this;exact this
 have hry:=h.ctx.t y (by rw [hy])
 rw [hy] at hry
 have hil:=(List.getElem?_eq_some_iff.1 hi).1
 obtain ⟨vs,k1,k2,hS⟩:=h.hi.ob i _ hi
 obtain ⟨e1,e2,e3,-,-⟩:=jk hap
 obtain ⟨A,cap,q1,q2⟩:=xJ h.hi hry hc h0
 have hzl:z.cells.size=c.w:=by rw [hz3,hw]
 have key:∀ v' w',w'.ownsRow 0 e c.w v' (c.len+c2.len) (vs++[])->w.grownBy w' (φ i).ownBlock->(v'.ownBlock=(φ i).ownBlock\/v'.ownBlock=some w.heap.size)->K (a.put o.dst v') w':=by
  intro v' w' r1 r2 r4
  have hb1:=jc k1
  have hb2:=jc r1
  have hlen:((H.set i .gone)++[Ob.row e c']).length=H.length+1:=by simp
  have hone:∀ k,k<H.length+1->H.length<=k\/k=i->k=i\/k=H.length:=fun k hk hc=>by rcases hc with hc | hc<;>omega
  have hφ:∀ k,k<H.length->upd φ H.length v' k=φ k:=fun k hk=>upd_ne φ v' (by omega)
  have hbi:∀ g,dI (dI β i fun _=>False) H.length (fun g=>blk v'=some g) i g->False:=fun g hg=>by rw [bG _ _ (by omega),aS] at hg;exact hg
  have hbn:∀ g,dI (dI β i fun _=>False) H.length (fun g=>blk v'=some g) H.length g->blk v'=some g:=fun g hg=>by rw [aS] at hg;exact hg
  have hR:=h.change (w':=w') id (fun k=>k=i) (φ':=upd φ H.length v') (β':=dI (dI β i fun _=>False) H.length fun g=>blk v'=some g) (H':=(H.set i .gone)++[.row e c'])
   ⟨r2.os,r2.tape,r2.output,r2.size,fun k hk hn'=>r2.block k hk fun e=>hn' ⟨i,hil,rfl,hS k (by rw [← hb1];exact e.symm)⟩⟩ (by rw [hlen];omega)
   (fun y hy u hu=>Lf.jK hy hφ hu) (fun y hy=>iF (by rw [hlen];omega) hy)
   (fun k p hk hne=>by
    have hlt:=(List.getElem?_eq_some_iff.1 hk).1
    refine ⟨?_,hφ k hlt,by rw [bG _ _ (by omega),bG _ _ hne]⟩
    rw [List.getElem?_append_left (by simpa using hlt),List.getElem?_set,if_neg (fun e=>hne e.symm),Ob.map_id]
    exact hk)
   (fun k p hk hc=>by
    rcases hone k (by rw [← hlen];exact (List.getElem?_eq_some_iff.1 hk).1) hc with rfl | rfl
    ·rw [List.getElem?_append_left (by simpa using hil),List.getElem?_set,if_pos rfl,if_pos hil] at hk
     cases hk
     exact ⟨trivial,trivial⟩
    ·rw [List.getElem?_append_right (by simp)] at hk
     simp at hk
     subst hk
     rw [aS,upd_same]
     exact ⟨⟨vs++[],by rw [e2,e1];exact r1,nU hap k2 q2,fun _ h=>h⟩,trivial⟩)
   (fun k g hk hc hg=>by
    rcases hone k (by rw [← hlen];exact hk) hc with rfl | rfl
    ·exact (hbi g hg).elim
    ·have hg:=hbn g hg
     rw [← hb2] at hg
     refine ⟨(r1.lt g hg).2,?_⟩
     rcases r4 with r4 | r4
     ·exact .inr ⟨i,hil,rfl,hS g (by rw [← hb1,← r4];exact hg)⟩
     ·rw [r4] at hg;cases hg;exact .inl (Nat.le_refl _))
   (fun k l g hk hl hc hc' hg hg'=>by
    rcases hone k (by rw [← hlen];exact hk) hc with rfl | rfl<;>rcases hone l (by rw [← hlen];exact hl) hc' with rfl | rfl
    ·rfl
    ·exact (hbi g hg).elim
    ·exact (hbi g hg').elim
    ·rfl)
   (fun k hk=>hφ k (Au h hk))
  rw [Tm.map_id] at hR
  exact hK _ _ _ _ (hR.put (d:=o.dst) hd (Mem.le_refl _) hR.new hR.hi hR.below ⟨fun _=>(upd_same _ _ _).symm,fun hf=>by cases hf⟩ (AV.dL.2 (by simp [Lf.ltB])))
 unfold Oper.wp execOp
 cases A with
 | none =>
  have hr:=qY (P:=P) w 0 t o.type e inf c.w hty hinf (φ i) c.len vs k1 cap
  simp only [ho,resolve,invoke,builtin,Sem.run_bind,Sem.run_pure,Result.andThen_ok,List.map_toArray,List.map_cons,List.map_nil,hrx,q1,hr]
  exact key (φ i) w (by rw [h0,List.append_nil];exact k1) ⟨rfl,rfl,rfl,Nat.le_refl _,fun _ _ _=>rfl⟩ (.inl rfl)
 | some ad =>
  obtain ⟨v',w',hr,r1,r2,-,r4⟩:=run_append_own_at (P:=P) w 0 t o.type e inf z c.w (cf.bytes e) hty hinf hz1 (by rw [hsz,hw]) hbt hzl (by rw [hw];omega) (φ i) c.len vs k1 ad 0 cap [] (by simp) (by simp) (by simp) (by simp only [maxLen];omega) (by
   have:(c.len+c2.len)*cf.bytes e<=1073741824*4096:=Nat.mul_le_mul hn hby
   rw [h0] at this
   omega) (Nat.zero_le _)
  simp only [ho,resolve,invoke,builtin,Sem.run_bind,Sem.run_pure,Result.andThen_ok,List.map_toArray,List.map_cons,List.map_nil,hrx,q1,hr]
  exact key v' w' (by rw [h0];exact r1) r2 r4
theorem Us {t e:Nat} {x y:Operand} {i:Nat} {c c2 c':Cn} {v:AV} (ho:o.op = .call { callee := .builtin .append,args:=#[x,y],argTypes:=#[t,t] }) (hg:o.guard=none) (hd:o.dst.all (Nat.blt · N)=true) (ht:cf.ty t = .slice e) (hz:cf.sz e≠0) (hx:look T x=(true,.lf (.own i))) (hi:H[i]? = some (.row e c)) (hy:look T y=(true,v)) (hc:content H v=some c2) (hw:c.w=cf.sz e) (hap:c.app c2=some c') (hn:c.len+c2.len<=1073741824) (hby:cf.bytes e<=4096) :
  jJ P cf b N H ((H.set i .gone)++[.row e c']) o T (true,.lf (.own H.length)):=fun T' hT=>by
 rw [ho] at hT
 simp only [Op.operands,Call.operands] at hT
 exact ⟨hg,fun φ β M a w K Q hR hK=>(by
  by_cases h0:0<c2.len
  ·exact Pg hR hd ho ht hz ((hT x (by simp)).trans hx) hi ((hT y (by simp)).trans hy) hc hw h0 hap hn hby fun φ' β' a' w' hR'=>hK _ _ _ _ _ hR'
  ·exact Uc hR hd ho ht hz ((hT x (by simp)).trans hx) hi ((hT y (by simp)).trans hy) hc hw (by omega) hap hn hby fun φ' β' a' w' hR'=>hK _ _ _ _ _ hR')⟩
def Cn.addN:Cn->Nat->Option Cn
 | .ii xs,q=>some (.ii (xs++List.replicate q []))
 | .iii xs,q=>some (.iii (xs++List.replicate q []))
 | .ki n xs,q=>some (.ki n (xs++List.replicate q []))
 | .kii n xs,q=>some (.kii n (xs++List.replicate q []))
 | .bbo xs,q=>some (.bbo (xs++List.replicate q []))
 | _,_=>none
theorem YB {α:Type} {k j:Nat}:(List.replicate k ([]:List α)).getD j []=[]:=by
 rw [List.getD_eq_getElem?_getD,List.getElem?_replicate]
 split<;>rfl
theorem Rf {c c':Cn} {k:Nat} (h:c.addN k=some c'):c'.len=c.len+k/\c'.flat=false/\c.w=1/\∀ j,(j<c.len->c'.sub j=c.sub j)/\(¬ j<c.len->(c'.sub j).len=0/\(c'.sub j).ok/\(c'.sub j).deep+1=c.deep):=by
 unfold Cn.addN at h
 split at h<;>first | (cases h;done) | skip
 all_goals
  cases h
  exact ⟨by simp [Cn.len],rfl,rfl,fun j=>⟨fun hj=>by simp only [Cn.sub];rw [ny _ _ _ hj],fun hj=>by simp only [Cn.sub];rw [nC _ _ _ hj,YB];exact ⟨rfl,by simp [Cn.ok],rfl⟩⟩⟩
theorem Rq (h:RA P cf b N φ β M ⟨T,H⟩ a w) (hd:o.dst.all (Nat.blt · N)=true) {t e e2:Nat} {es:List Nat} {x y:Operand} (ho:o.op = .call { callee := .builtin .append,args:=#[x,y],argTypes:=#[t,t] }) (ht:cf.ty t = .slice e) (hz:cf.sz e=1) {i k:Nat} {c c':Cn}
  (hx:look T x=(true,.lf (.own i))) (hi:H[i]? = some (.tree (e::e2::es) c)) {v:AV} (hy:look T y=(true,v)) (hc:content H v=some (.nl k)) (h0:0<k) (hap:c.addN k=some c') (hdp:c.deep=es.length+2) (hn:c.len+k<=1073741824) (hby:cf.bytes e<=4096)
  {K:Act->World->Prop} (hK:∀ φ' β' a' w',RA P cf b N φ' β' M ⟨T.put o.dst (true,.lf (.own H.length)),(H.set i .gone)++[.tree (e::e2::es) c']⟩ a' w'->K a' w'):o.wp P a w K Q:=by
 obtain ⟨inf,hinf,hsz,hbt,z,hz1,hz2,hz3⟩:=h.cf.info e (by omega)
 have hty:=h.cf.ty t
 rw [ht] at hty
 have hrx:a.eval x=φ i:=by have:=h.ctx.t x (by rw [hx]);rw [hx] at this;exact this
 have hry:=h.ctx.t y (by rw [hy])
 rw [hy] at hry
 have hil:=(List.getElem?_eq_some_iff.1 hi).1
 obtain ⟨hf,vs,Ss,k1,i2,i3,i4,i5⟩:gX w (e::e2::es) c (φ i) (β i):=h.hi.ob i _ hi
 obtain ⟨e1,e2',e3,e4⟩:=Rf hap
 obtain ⟨ad,cap,vs2,q1,q2,q3⟩:=nX h.hi hry hc h0 (show 0<1 by omega)
 have q1:a.eval y = .slice (some ad) k cap:=q1
 have hvl:vs.length=c.len:=by have:=k1.1;omega
 have hvl2:vs2.length=k:=by have:=q2.2.1;simp only [Cn.len,Cn.w] at this;omega
 have hnil:∀ j,j<k->vs2[j]? = some (.slice none 0 0):=fun j hj=>by
  obtain ⟨u,f1,f2⟩:=q2.2.2 j 0 hj (show 0<1 by omega)
  have f2:u = .slice none 0 0:=f2
  rw [f2] at f1
  simpa [Cn.w] using f1
 obtain ⟨v',w',hr,r1,r2,-,r4⟩:=run_append_own_at (P:=P) w 0 t o.type e inf z 1 (cf.bytes e) hty hinf hz1 (by rw [hsz,hz]) hbt (by rw [hz3,hz]) (by omega) (φ i) c.len vs k1 ad k cap vs2 (by omega) q3 (fun u hu=>by
  obtain ⟨j,hj,rfl⟩:=List.getElem_of_mem hu
  have:=hnil j (by omega)
  rw [List.getElem?_eq_getElem hj,Option.some.injEq] at this
  rw [this]
  rfl) (by simp only [maxLen];omega) (by
  have:(c.len+k)*cf.bytes e<=1073741824*4096:=Nat.mul_le_mul hn hby
  omega) (Nat.zero_le _)
 unfold Oper.wp execOp
 simp only [ho,resolve,invoke,builtin,Sem.run_bind,Sem.run_pure,Result.andThen_ok,List.map_toArray,List.map_cons,List.map_nil,hrx,q1,hr]
 have hb1:=jc k1
 have hb2:=jc r1
 have hS:∀ g,blk (φ i)=some g->β i g:=fun g hg=>(i2 g hg).1
 have hbv:∀ g,blk v'=some g->g<w'.heap.size/\(β i g\/w.heap.size<=g)/\(blk (φ i)=some g\/w.heap.size<=g):=fun g hg=>by
  rw [← hb2] at hg
  refine ⟨(r1.lt g hg).2,?_⟩
  rcases r4 with r4 | r4
  ·have:blk (φ i)=some g:=by rw [← hb1,← r4];exact hg
   exact ⟨.inl (hS g this),.inl this⟩
  ·rw [r4] at hg;cases hg;exact ⟨.inr (Nat.le_refl _),.inr (Nat.le_refl _)⟩
 have hkeep:∀ g,blk (φ i)≠some g->g<w.heap.size->w'.heap[g]? = w.heap[g]? := fun g hg hlt=>r2.block g hlt (by rw [hb1];exact fun e=>hg e.symm)
 have hnb:∀ g j,Ss j g->blk (φ i)≠some g:=fun g j hg e=>(i2 g e).2 j hg
 have hT:gX w' (e::e2::es) c' v' (fun g=>blk v'=some g\/∃ j,Ss j g):=by
  refine ⟨e2',vs++vs2,fun j g=>j<c.len/\Ss j g,by rw [e1];exact r1,fun g hg=>⟨.inl hg,fun j ⟨_,hj⟩ =>?_⟩,fun j g ⟨_,hg⟩ => .inr ⟨j,hg⟩,fun j l g ⟨_,hg⟩ ⟨_,hg'⟩=>i4 j l g hg hg',fun j u hj hu =>?_⟩
  ·obtain ⟨_,_,k3⟩:=hbv g hg
   rcases k3 with k3 | k3
   ·exact hnb g j hj k3
   ·have:=h.hi.lt i g hil (i3 j g hj);omega
  ·rw [e1] at hj
   by_cases hjc:j<c.len
   ·rw [(e4 j).1 hjc]
    rw [List.getElem?_append_left (by omega)] at hu
    exact ((i5 j u hjc hu).keep fun g hg=>hkeep g (hnb g j hg) (h.hi.lt i g hil (i3 j g hg))).mono fun g hg=>⟨hjc,hg⟩
   ·rw [List.getElem?_append_right (by omega),hvl,hnil _ (by omega)] at hu
    cases hu
    obtain ⟨f1,f2,f3⟩:=(e4 j).2 hjc
    exact acY (by simp only [List.length_cons];omega) f1 f2
 have hlen:((H.set i .gone)++[Ob.tree (e::e2::es) c']).length=H.length+1:=by simp
 have hone:∀ l,l<H.length+1->H.length<=l\/l=i->l=i\/l=H.length:=fun l hl hc=>by rcases hc with hc | hc<;>omega
 have hφ:∀ l,l<H.length->upd φ H.length v' l=φ l:=fun l hl=>upd_ne φ v' (by omega)
 have hbi:∀ g,dI (dI β i fun _=>False) H.length (fun g=>blk v'=some g\/∃ j,Ss j g) i g->False:=fun g hg=>by rw [bG _ _ (by omega),aS] at hg;exact hg
 have hR:=h.change (w':=w') id (fun l=>l=i) (φ':=upd φ H.length v') (β':=dI (dI β i fun _=>False) H.length fun g=>blk v'=some g\/∃ j,Ss j g) (H':=(H.set i .gone)++[.tree (e::e2::es) c'])
  ⟨r2.os,r2.tape,r2.output,r2.size,fun l hl hn'=>r2.block l hl fun e=>hn' ⟨i,hil,rfl,hS l (by rw [← hb1];exact e.symm)⟩⟩ (by rw [hlen];omega)
  (fun y hy u hu=>Lf.jK hy hφ hu) (fun y hy=>iF (by rw [hlen];omega) hy)
  (fun l p hl hne=>by
   have hlt:=(List.getElem?_eq_some_iff.1 hl).1
   refine ⟨?_,hφ l hlt,by rw [bG _ _ (by omega),bG _ _ hne]⟩
   rw [List.getElem?_append_left (by simpa using hlt),List.getElem?_set,if_neg (fun e=>hne e.symm),Ob.map_id]
   exact hl)
  (fun l p hl hc=>by
   rcases hone l (by rw [← hlen];exact (List.getElem?_eq_some_iff.1 hl).1) hc with rfl | rfl
   ·rw [List.getElem?_append_left (by simpa using hil),List.getElem?_set,if_pos rfl,if_pos hil] at hl
    cases hl
    exact ⟨trivial,trivial⟩
   ·rw [List.getElem?_append_right (by simp)] at hl
    simp at hl
    subst hl
    rw [aS,upd_same]
    exact ⟨hT,trivial⟩)
  (fun l g hl hc hg=>by
   rcases hone l (by rw [← hlen];exact hl) hc with rfl | rfl
   ·exact (hbi g hg).elim
   ·rw [aS] at hg
    rcases hg with hg | ⟨j,hg⟩
    ·obtain ⟨f1,f2,_⟩:=hbv g hg
     refine ⟨f1,?_⟩
     rcases f2 with f2 | f2
     ·exact .inr ⟨i,hil,rfl,f2⟩
     ·exact .inl f2
    ·have:=i3 j g hg
     exact ⟨Nat.lt_of_lt_of_le (h.hi.lt i g hil this) r2.size,.inr ⟨i,hil,rfl,this⟩⟩)
  (fun l l' g hl hl' hc hc' hg hg'=>by
   rcases hone l (by rw [← hlen];exact hl) hc with rfl | rfl<;>rcases hone l' (by rw [← hlen];exact hl') hc' with rfl | rfl
   ·rfl
   ·exact (hbi g hg).elim
   ·exact (hbi g hg').elim
   ·rfl)
  (fun l hl=>hφ l (Au h hl))
 rw [Tm.map_id] at hR
 exact hK _ _ _ _ (hR.put (d:=o.dst) hd (Mem.le_refl _) hR.new hR.hi hR.below ⟨fun _=>(upd_same _ _ _).symm,fun hf=>by cases hf⟩ (AV.dL.2 (by simp [Lf.ltB])))
theorem Nc {t e e2:Nat} {es:List Nat} {x y:Operand} {i k:Nat} {c c':Cn} {v:AV} (ho:o.op = .call { callee := .builtin .append,args:=#[x,y],argTypes:=#[t,t] }) (hg:o.guard=none) (hd:o.dst.all (Nat.blt · N)=true) (ht:cf.ty t = .slice e) (hz:cf.sz e=1) (hx:look T x=(true,.lf (.own i))) (hi:H[i]? = some (.tree (e::e2::es) c)) (hy:look T y=(true,v)) (hc:content H v=some (.nl k)) (h0:0<k) (hap:c.addN k=some c') (hdp:c.deep=es.length+2) (hn:c.len+k<=1073741824) (hby:cf.bytes e<=4096) :
  jJ P cf b N H ((H.set i .gone)++[.tree (e::e2::es) c']) o T (true,.lf (.own H.length)):=fun T' hT=>by
 rw [ho] at hT
 simp only [Op.operands,Call.operands] at hT
 exact ⟨hg,fun φ β M a w K Q hR hK=>Rq hR hd ho ht hz ((hT x (by simp)).trans hx) hi ((hT y (by simp)).trans hy) hc h0 hap hdp hn hby fun φ' β' a' w' hR'=>hK _ _ _ _ _ hR'⟩
end
theorem SL {g:Bool} {v:AV} {d:Option Nat} {p:Ob} {s:Nat} (hR:RA P cf b N φ β M ⟨T.put d (g,v),H2++[p]⟩ a w) (hs:H2[s]? = some .gone) (hfx:b.fx.length<=s) (hT:∀ t,(T t).2.lt H2.length) (hT2:Df s T) (hH:∀ (i:Nat) (o:Ob),H2[i]? = some o->o.lt H2.length) (hH2:JY s H2) :
  ∃ φ' β' M',RA P cf b N φ' β' M' ⟨T.put d (g,v.map (Lf.mv s H2.length)),H2.set s (p.map (Lf.mv s H2.length))⟩ a w:=by
 have hsl:=(List.getElem?_eq_some_iff.1 hs).1
 have hfs:∀ i,b.fx.length<=i->b.fx.getD i false=false:=fun i hi=>by rw [List.getD_eq_getElem?_getD,List.getElem?_eq_none hi];rfl
 obtain ⟨φ',β',h⟩:=hR.mv (i:=s) (n:=H2.length) (p:=p) (by show (H2++[p])[s]? = _;rw [List.getElem?_append_left hsl];exact hs) (by show (H2++[p])[H2.length]? = _;simp) (by omega) (hfs s hfx) (hfs _ (by omega))
 have e1:(T.put d (g,v)).map (Lf.mv s H2.length)=T.put d (g,v.map (Lf.mv s H2.length)):=by
  have ht:∀ t,(T t).2.map (Lf.mv s H2.length)=(T t).2:=fun t=>AV.map_eq fun y hy=>Qg (hT t y hy) (hT2 t y hy)
  funext t
  cases d with
  | none=>exact Prod.ext rfl (ht t)
  | some t' =>
   simp only [Tm.map,Tm.put]
   cases Nat.beq t t' with
   | true=>rfl
   | false=>exact Prod.ext rfl (ht t)
 have e2:(((H2++[p]).map (Ob.map (Lf.mv s H2.length))).set s (p.map (Lf.mv s H2.length))).set H2.length .gone=H2.set s (p.map (Lf.mv s H2.length))++[.gone]:=by
  have e3:H2.map (Ob.map (Lf.mv s H2.length))=H2:=by
   refine List.ext_getElem (by simp) fun i h1 h2 =>?_
   rw [List.getElem_map]
   have hi:=List.getElem?_eq_getElem h2
   exact Ob.map_eq fun y hy=>Qg (by
    have:=hH i _ hi
    cases ho:H2[i] with
    | box cs=>rw [ho] at this hy;exact this y hy
    | hole e es c k x=>rw [ho] at this hy;simp [nJ] at hy;rw [hy];exact this
    | cut e e2 c k x=>rw [ho] at this hy;simp [nJ] at hy;rw [hy];exact this
    | _=>rw [ho] at hy;simp [nJ] at hy) (hH2 i _ hi y hy)
  rw [List.map_append,e3,List.set_append_left _ _ hsl,List.set_append_right _ _ (by simp)]
  simp
 rw [e1] at h
 have h:RA P cf b N φ' β' M ⟨T.put d (g,v.map (Lf.mv s H2.length)),H2.set s (p.map (Lf.mv s H2.length))++[.gone]⟩ a w:=e2 ▸ h
 have hv:v.lt (H2.length+1)\/d=none:=by
  cases d with
  | none=>exact .inr rfl
  | some t' =>
   have:=hR.lt t'
   simp only [Tm.put,Nat.beq_refl,cond_true,List.length_append,List.length_singleton] at this
   exact .inl this
 have hp:p.lt (H2.length+1):=by
  have:=hR.hi.wf H2.length p (by simp)
  simpa using this
 exact R.le (X:=⟨T.put d (g,v.map (Lf.mv s H2.length)),H2.set s (p.map (Lf.mv s H2.length))++[.gone]⟩) (X':=⟨T.put d (g,v.map (Lf.mv s H2.length)),H2.set s (p.map (Lf.mv s H2.length))⟩) ⟨φ',β',M,h⟩ ⟨fun t => .inl rfl,H2.length,by simp;omega,by simp [List.take_append],fun t=>by
   simp only [List.length_set]
   cases d with
   | none=>exact hT t
   | some t' =>
    simp only [Tm.put]
    cases Nat.beq t t' with
    | true =>
     rcases hv with hv | hv
     ·exact AV.map_lt hv fun y hy=>Y5 hsl hy
     ·cases hv
    | false=>exact hT t,fun i q hi=>by
   simp only [List.length_set]
   have hi:(H2.set s (p.map (Lf.mv s H2.length)))[i]? = some q:=hi
   rw [List.getElem?_set] at hi
   split at hi
   ·have hi:some (p.map (Lf.mv s H2.length))=some q:=by simpa [hsl] using hi
    cases hi
    exact Ob.map_lt hp fun y hy=>Y5 hsl hy
   ·exact hH i q hi⟩
def aey (P:Program) (cf:Cfg) (b:Base) (N:Nat) (fr:List Nat) (o:Oper) (T:Tm) (H H1:List Ob) (v:Bool×AV):Prop:=o.guard=none/\∀ φ β M a w K Q,RA P cf b N φ β M ⟨T,H⟩ a w->(∀ s∈fr,Df s T/\JY s H)->(∀ φ' β' M' a' w',RA P cf b N φ' β' M' ⟨T.put o.dst v,H1⟩ a' w'->K a' w')->o.wp P a w K Q
def NP (P:Program) (cf:Cfg) (b:Base) (N:Nat) (fr:List Nat) (H H1:List Ob) (o:Oper) (T:Tm) (v:Bool×AV):Prop:=∀ T',(∀ x∈o.op.operands,look T' x=look T x)->aey P cf b N fr o T' H H1 v
theorem NQ {fr:List Nat} {H1:List Ob} {T':Tm} {v:Bool×AV} (h:∀ x∈o.op.operands,look T' x=look T x) (k:NP P cf b N fr H H1 o T v):NP P cf b N fr H H1 o T' v:=fun T2 h2=>k T2 fun x hx=>(h2 x hx).trans (h x hx)
theorem Ut {t n e:Nat} {parts:Array (Nat×Operand)} {vs:List TV} {c:Cn} (ho:o.op = .buildSlice t n parts) (hg:o.guard=none) (hd:o.dst.all (Nat.blt · N)=true) (ht:cf.ty t = .slice e) (hz:cf.sz e≠0) (hn0:0<n) (hn:n*cf.sz e<=16777216) (hidx:parts.toList.map (·.1)=List.range n) (hvs:parts.toList.mapM (fun p=>match look T p.2 with | (true,.tv v)=>some v | _=>none)=some vs) (hsz:∀ v∈vs,v.cs.length=cf.sz e/\v.cs.all (Lf.dU H)=true) (hc:sF vs=some c) (hw:c.w=cf.sz e):jJ P cf b N H (H++[.row e c]) o T (true,.lf (.own H.length)):=fun T' hT=>by
 rw [ho] at hT
 simp only [Op.operands] at hT
 refine ⟨hg,fun φ β M a w K Q hR hK=>Pj hR hd ho ht hz hn0 hn hidx (vs:=vs) ?_ hsz hc hw fun φ' β' a' w' hR'=>hK _ _ _ _ _ hR'⟩
 rw [← hvs]
 exact mapM_congr fun p hp=>by
  rw [hT p.2 (by simp only [List.mem_toArray,List.mem_map];exact ⟨p,hp,rfl⟩)]
  try rfl
theorem yB {H1:List Ob} {v:Bool×AV} (h:jJ P cf b N H H1 o T v):NP P cf b N [] H H1 o T v:=fun T' hT'=>by
 obtain ⟨hg,hE⟩:=h T' hT'
 exact ⟨hg,fun φ β M a w K Q hR _ hK=>hE φ β M a w K Q hR hK⟩
theorem zN {p:Ob} {v:AV} {s:Nat} (h:jJ P cf b N H (H2++[p]) o T (true,v)) (hl:H2.length=H.length) (hs:H2[s]? = some .gone) (hfx:b.fx.length<=s) (hw:∀ (i:Nat) (q:Ob),H2[i]? = some q->q = .gone\/H[i]? = some q):NP P cf b N [s] H (H2.set s (p.map (Lf.mv s H.length))) o T (true,v.map (Lf.mv s H.length)):=fun T' hT'=>by
 obtain ⟨hg,hE⟩:=h T' hT'
 refine ⟨hg,fun φ β M a w K Q hR hf hK=>hE φ β M a w K Q hR fun φ' β' M' a' w' hR' =>?_⟩
 obtain ⟨hf1,hf2⟩:=hf s (by simp)
 obtain ⟨_,_,_,h'⟩:=SL hR' hs hfx (fun t=>by rw [hl];exact hR.lt t) hf1 (fun i q hi=>by
  rw [hl]
  rcases hw i q hi with rfl | h1
  ·trivial
  ·exact hR.hi.wf i q h1) (fun i q hi=>by
  rcases hw i q hi with rfl | h1
  ·intro y hy;simp [nJ] at hy
  ·exact hf2 i q h1)
 rw [hl] at h'
 exact hK _ _ _ _ _ h'
theorem XH {Q:Exit->Act->World->Prop} {K:Act->World->Prop} (h:RA P cf b N φ β M ⟨T,H⟩ a w) (hd:o.dst.all (Nat.blt · N)=true) {t e:Nat} {x y:Operand} (ho:o.op = .makeSlice t x y) (ht:cf.ty t = .slice e) (hz:cf.sz e≠0) {m:Int} {c:Cn}
  (hx:look T x=(true,.int m)) (hy:look T y=(true,.int m)) (hm0:0<=m) (hm1:m<=1073741824) (hc:zeros cf e m.toNat=some c) (hw:c.w=cf.sz e) (hzv:cf.zero e=ji c) (hby:cf.bytes e<=4096)
  (hK:∀ φ' β' a' w',RA P cf b N φ' β' M ⟨T.put o.dst (true,.lf (.own H.length)),H++[.row e c]⟩ a' w'->K a' w'):o.wp P a w K Q:=by
 obtain ⟨inf,hinf,hsz,hbt,z,hz1,hz2,hz3⟩:=h.cf.info e hz
 have hty:=h.cf.ty t
 rw [ht] at hty
 obtain ⟨n,rfl⟩:=Int.eq_ofNat_of_zero_le hm0
 rw [Int.toNat_natCast] at hc
 have hrx:a.eval x = .int .i64 n:=by have:=h.ctx.t x (by rw [hx]);rw [hx] at this;exact this
 have hry:a.eval y = .int .i64 n:=by have:=h.ctx.t y (by rw [hy]);rw [hy] at this;exact this
 have hb2:inf.bytes*n<=281474976710656:=by
  rw [hbt]
  have:cf.bytes e*n<=4096*1073741824:=Nat.mul_le_mul hby (by omega)
  omega
 obtain ⟨w',hrun,r1,r2⟩:=run_make_full (P:=P) w 0 t e inf z c.w hty hinf hz1 (by rw [hsz,hw]) .i64 .i64 n hb2 (by simp only [maxLen];omega) (Nat.zero_le _)
 unfold Oper.wp
 simp [execOp,ho,hrx,hry,hrun,Result.andThen]
 have hcw:0<c.w:=by rw [hw];omega
 obtain ⟨s1,s2⟩:=G8 (M:=M) hc (vs:=(madeCells z.cells (n*c.w)).toList) (by simp [size_madeCells]) fun j o hj ho=>by
  have hlt:j*c.w+o<n*c.w:=by
   have:j*c.w+c.w<=n*c.w:=by rw [← Nat.succ_mul];exact Nat.mul_le_mul_right _ hj
   omega
  have hmod:(j*c.w+o) % z.cells.size=o:=by
   rw [hz3,← hw,Nat.mul_comm,Nat.mul_add_mod]
   exact Nat.mod_eq_of_lt ho
  have ho2:o<z.cells.size:=by rw [hz3,← hw];exact ho
  rw [← hzv,← hz2]
  simp only [madeCells,Array.toList_map,Array.toList_range,List.getElem?_map,List.getElem?_range hlt,Option.map_some,hmod]
  simp [ho2]
 have hR:=h.grow (v := .slice (some ⟨w.heap.size,0,none⟩) n n) (o := .row e c) (below_grown r2) (fun g=>g=w.heap.size) (fun g hg'=>by
  subst hg'
  exact ⟨Nat.le_refl _,(r1.lt w.heap.size rfl).2⟩) ⟨_,by rw [s2];exact r1,s1,fun g hg'=>by simp [blk] at hg';omega⟩ trivial
 exact hK _ _ _ _ (hR.put (d:=o.dst) hd (Mem.le_refl _) hR.new hR.hi hR.below ⟨fun _=>(upd_same _ _ _).symm,fun hf=>by cases hf⟩ (AV.dL.2 (by simp [Lf.ltB])))
theorem Uu {t e:Nat} {x y:Operand} {m:Int} {c:Cn} (ho:o.op = .makeSlice t x y) (hg:o.guard=none) (hd:o.dst.all (Nat.blt · N)=true) (ht:cf.ty t = .slice e) (hz:cf.sz e≠0) (hx:look T x=(true,.int m)) (hy:look T y=(true,.int m)) (hm0:0<=m) (hm1:m<=1073741824) (hc:zeros cf e m.toNat=some c) (hw:c.w=cf.sz e) (hzv:cf.zero e=ji c) (hby:cf.bytes e<=4096) :
  jJ P cf b N H (H++[.row e c]) o T (true,.lf (.own H.length)):=fun T' hT=>by
 rw [ho] at hT
 simp only [Op.operands] at hT
 exact ⟨hg,fun φ β M a w K Q hR hK=>XH hR hd ho ht hz ((hT x (by simp)).trans hx) ((hT y (by simp)).trans hy) hm0 hm1 hc hw hzv hby fun φ' β' a' w' hR'=>hK _ _ _ _ _ hR'⟩
end
section
variable {P:Program} {cf:Cfg} {b:Base} {N:Nat} {φ:Nat->Value} {β:Nat->Nat->Prop} {M:Mem} {T:Tm} {H:List Ob} {a:Act} {w w':World} {o:Oper}
theorem RA.ZG (h:RA P cf b N φ β M ⟨T,H⟩ a w) {i m:Nat} (hi:i<H.length) (hm:m<H.length) (hne:i≠m) {o':Ob} {r:Option Nat} (hw:w.grownBy w' r) (hr:∀ g,r=some g->β i g) (ho:o'.rel φ (fun g=>β i g\/β m g) M w' (φ i)) (hlt:o'.lt H.length) :
  RA P cf b N φ (dI (dI β i fun g=>β i g\/β m g) m fun _=>False) M ⟨T,(H.set i o').set m .gone⟩ a w':=by
 have hlen:((H.set i o').set m .gone).length=H.length:=by simp
 have hone:∀ j,j<((H.set i o').set m .gone).length->H.length<=j\/(j=i\/j=m)->j=i\/j=m:=fun j hj hc=>by rcases hc with hc | hc;omega;exact hc
 have hbm:∀ g,dI (dI β i fun g=>β i g\/β m g) m (fun _=>False) m g->False:=fun g hg=>by rw [aS] at hg;exact hg
 have hbi:∀ g,dI (dI β i fun g=>β i g\/β m g) m (fun _=>False) i g->β i g\/β m g:=fun g hg=>by rw [bG _ _ hne,aS] at hg;exact hg
 have:=h.change (w':=w') id (fun j=>j=i\/j=m) (φ':=φ) (β':=dI (dI β i fun g=>β i g\/β m g) m fun _=>False) (H':=(H.set i o').set m .gone) ⟨hw.os,hw.tape,hw.output,hw.size,fun k hk hn=>hw.block k hk fun e=>hn ⟨i,hi,.inl rfl,hr k e.symm⟩⟩ (by simp)
  (fun y hy u hu=>hu) (fun y hy=>by rw [hlen];exact hy)
  (fun j p hj hne'=>by
   refine ⟨?_,rfl,by rw [bG _ _ fun e=>hne' (.inr e),bG _ _ fun e=>hne' (.inl e)]⟩
   rw [List.getElem?_set,if_neg (fun e=>hne' (.inr e.symm)),List.getElem?_set,if_neg (fun e=>hne' (.inl e.symm)),hj,Ob.map_id])
  (fun j p hj hc=>by
   rcases hone j (List.getElem?_eq_some_iff.1 hj).1 hc with rfl | rfl
   ·rw [List.getElem?_set,if_neg (fun e=>hne e.symm),List.getElem?_set,if_pos rfl,if_pos (by simpa using hi)] at hj
    cases hj
    rw [bG _ _ hne,aS]
    exact ⟨ho,by rw [hlen];exact hlt⟩
   ·rw [List.getElem?_set,if_pos rfl,if_pos (by simpa using hm)] at hj
    cases hj
    exact ⟨trivial,trivial⟩)
  (fun j g hj hc hg=>by
   rcases hone j hj hc with rfl | rfl
   ·rcases hbi g hg with h1 | h1
    ·exact ⟨Nat.lt_of_lt_of_le (h.hi.lt _ g hi h1) hw.size,.inr ⟨j,hi,.inl rfl,h1⟩⟩
    ·exact ⟨Nat.lt_of_lt_of_le (h.hi.lt _ g hm h1) hw.size,.inr ⟨m,hm,.inr rfl,h1⟩⟩
   ·exact (hbm g hg).elim)
  (fun j k g hj hk hc hc' hg hg'=>by
   rcases hone j hj hc with rfl | rfl<;>rcases hone k hk hc' with rfl | rfl
   ·rfl
   ·exact (hbm g hg').elim
   ·exact (hbm g hg).elim
   ·rfl)
  (fun j hj=>rfl)
 rwa [Tm.map_id] at this
theorem XR {t:Nat} {x y:Operand} {i j m:Nat} {e:Nat} {es:List Nat} {c c' d:Cn} {oi om:Ob} (ho:o.op = .store t x y) (hg:o.guard=none) (hd:o.dst=none) (hz:cf.sz t=1) (hx:look T x=(true,.lf (.oa i 1 j 0))) (hy:look T y=(true,.lf (.own m))) (hne:i≠m) (hoi:H[i]? = some oi) (hom:H[m]? = some om)
  (hi:oK j oi=some (e,es,c)) (hm:om.oO=some (es,d)) (hj:j<c.len) (hp:c.pV j d=some c') (v:Bool×AV):jJ P cf b N H ((H.set i (.tree (e::es) c')).set m .gone) o T v:=fun T' hT=>by
 rw [ho] at hT
 simp only [Op.operands] at hT
 refine ⟨hg,fun φ β M a w K Q hR hK =>?_⟩
 obtain ⟨w',g,hrun,hgr,hbi,hrel⟩:=Ll hR ho hz ((hT x (by simp)).trans hx) ((hT y (by simp)).trans hy) hne hoi hom hi hm hj hp
 unfold Oper.wp
 rw [hrun]
 have hput:a.put o.dst undef=a:=by rw [hd];rfl
 show K (a.put o.dst undef) w'
 rw [hput]
 have hR':=hR.ZG (List.getElem?_eq_some_iff.1 hoi).1 (List.getElem?_eq_some_iff.1 hom).1 hne hgr (fun k e=>by cases e;exact hbi) hrel trivial
 exact hK _ _ _ _ _ (by rw [hd];exact hR')
end
section
variable {P:Program} {cf:Cfg} {b:Base} {N:Nat} {φ:Nat->Value} {β:Nat->Nat->Prop} {M:Mem} {T:Tm} {H:List Ob} {a:Act} {w w':World} {o:Oper}
theorem Zu {Q:Exit->Act->World->Prop} {K:Act->World->Prop} (h:RA P cf b N φ β M ⟨T,H⟩ a w) (hd:o.dst=none) {t:Nat} {x y:Operand} (ho:o.op = .store t x y) (hz:cf.sz t=1) {i k e e2:Nat} {c:Cn} {z v:Lf} (hx:look T x=(true,.lf (.oa i 1 k 0))) (hi:H[i]? = some (.cut e e2 c k z)) (hy:look T y=(true,.lf v)) (hone:Lf.dU H v=true) (hk:k<c.len)
  (hK:∀ a' w',RA P cf b N φ β M ⟨T,H.set i (.cut e e2 c k v)⟩ a' w'->K a' w'):o.wp P a w K Q:=by
 have hrx:=h.ctx.t x (by rw [hx])
 rw [hx] at hrx
 obtain ⟨g,n,cap,h1,h2⟩:=hrx
 have hry:=h.ctx.t y (by rw [hy])
 rw [hy] at hry
 have hly:=Bq h.lt y
 rw [hy] at hly
 have hlit:kZ (a.eval y)=true:=nK h.hi hone hry
 have hil:=(List.getElem?_eq_some_iff.1 hi).1
 obtain ⟨h0,vs,Ss,k1,k2,k3,k4,k5⟩:=h.hi.ob i _ hi
 have k1':=k1
 rw [h1] at k1'
 obtain ⟨k1l,k1r⟩:=k1'
 rcases k1r with ⟨k6,_⟩ | ⟨g',cap',cur,k6,_,k7,k8,k9,k10,k11⟩
 ·cases k6
 cases k6
 rw [Nat.mul_one] at k1l k10 k11
 have hcells:(a.eval y).cells=#[a.eval y]:=cells_one hlit
 obtain ⟨w',s1,s2,s3⟩:=oG h.cf (w:=w) (off:=k*1+0) (u:=a.eval y) (t:=t) (by omega) k7 (by rw [hcells,hz];rfl) (by rw [hcells];intro v hv;simp at hv;rw [hv];exact hlit) (by omega)
 have hrun:(execOp a.eval o).run P w = .ok .skip w':=by
  simp only [execOp,ho,h2,Sem.run_bind,s1,Result.andThen_ok,Sem.run_pure]
 have hbi:β i g:=(k2 g (by rw [h1];rfl)).1
 have hsp:splice cur.toList (k*1+0) (a.eval y).cells.toList=cur.toList.set k (a.eval y):=by
  rw [hcells,Nat.mul_one,Nat.add_zero]
  refine List.ext_getElem? fun l =>?_
  rw [dH _ _ _ (by simp;omega),List.getElem?_set]
  by_cases hl:k=l
  ·subst hl
   simp
   omega
  ·rw [if_neg (by simp;omega),if_neg hl]
 rw [hsp] at s2
 have hrow:w'.ownsRow 0 e 1 (φ i) c.len (vs.set k (a.eval y)):=by
  rw [h1]
  refine ⟨by simp;omega,.inr ⟨g,cap,_,rfl,Nat.zero_le _,s2,k8,k9,by simp;omega,?_⟩⟩
  rw [Nat.mul_one,← k11]
  show (cur.toList.set k (a.eval y)).take c.len=(cur.toList.take c.len).set k (a.eval y)
  rw [List.take_set]
 have hkeep:∀ g',g'≠g->(∃ l,l<H.length/\β l g')->w'.heap[g']? = w.heap[g']? := fun g' hne' ⟨l,hl,hg'⟩=>s3.block g' (h.hi.lt l g' hl hg') (by simpa using hne')
 have hH:rG φ M w' e e2 c k v (φ i) (β i):=by
  refine ⟨h0,vs.set k (a.eval y),Ss,hrow,k2,k3,k4,fun l u hl hu =>?_⟩
  rw [List.getElem?_set] at hu
  by_cases hkl:k=l
  ·subst hkl
   rw [if_pos rfl,if_pos (by omega)] at hu
   cases hu
   exact ⟨fun hn=>(Nat.lt_irrefl _ hn).elim,fun _=>hry,fun hn=>(Nat.lt_irrefl _ hn).elim⟩
  ·rw [if_neg hkl] at hu
   refine ⟨fun hn=>((k5 l u hl hu).1 hn).keep fun g' hg' =>?_,fun e=>(hkl e.symm).elim,(k5 l u hl hu).2.2⟩
   have hb:=k3 l g' hn hg'
   refine hkeep g' (fun e =>?_) ⟨i,hil,hb⟩
   subst e
   exact (k2 g' (by rw [h1];rfl)).2 l hg'
 unfold Oper.wp
 rw [hrun]
 have hput:a.put o.dst undef=a:=by rw [hd];rfl
 show K (a.put o.dst undef) w'
 rw [hput]
 exact hK a w' (h.set hil s3 (fun l e=>by cases e;exact hbi) hH (hly v (by simp [AV.leaves,TV.leaves])))
theorem XQ {t:Nat} {x y:Operand} {i k e e2:Nat} {c:Cn} {z u:Lf} (ho:o.op = .store t x y) (hg:o.guard=none) (hd:o.dst=none) (hz:cf.sz t=1) (hx:look T x=(true,.lf (.oa i 1 k 0))) (hi:H[i]? = some (.cut e e2 c k z)) (hy:look T y=(true,.lf u)) (hone:Lf.dU H u=true) (hk:k<c.len) (v:Bool×AV):jJ P cf b N H (H.set i (.cut e e2 c k u)) o T v:=fun T' hT=>by
 rw [ho] at hT
 simp only [Op.operands] at hT
 refine ⟨hg,fun φ β M a w K Q hR hK =>?_⟩
 refine Zu hR hd ho hz ((hT x (by simp)).trans hx) hi ((hT y (by simp)).trans hy) hone hk fun a' w' hR'=>hK φ β M a' w' ?_
 rw [hd]
 exact hR'
end
def eY (H:List Ob):List (Nat×Ob)->List Ob
 | []=>H
 | (i,o)::m=>eY (H.set i o) m
theorem qM:∀ (m:List (Nat×Ob)) (H:List Ob),(eY H m).length=H.length
 | [],_=>rfl
 | (i,o)::m,H=>by rw [eY,qM m];simp
theorem kF:∀ (m:List (Nat×Ob)) (H:List Ob) (r:Nat),(∀ p∈m,p.1≠r)->(eY H m)[r]? = H[r]?
 | [],_,_,_=>rfl
 | (i,o)::m,H,r,h=>by
  rw [eY,kF m _ r fun p hp=>h p (by simp [hp]),List.getElem?_set,if_neg (h (i,o) (by simp))]
theorem zZ:∀ (m:List (Nat×Ob)) (H H':List Ob) (r:Nat),H.length=H'.length->(∃ p∈m,p.1=r)->(eY H m)[r]? = (eY H' m)[r]?
 | [],_,_,_,_,⟨p,hp,_⟩=>by simp at hp
 | (i,o)::m,H,H',r,hl,hr=>by
  rw [eY,eY]
  by_cases hm:∃ p∈m,p.1=r
  ·exact zZ m _ _ r (by simp [hl]) hm
  ·have hn:∀ p∈m,p.1≠r:=fun p hp e=>hm ⟨p,hp,e⟩
   rw [kF m _ r hn,kF m _ r hn]
   obtain ⟨p,hp,rfl⟩:=hr
   rcases List.mem_cons.1 hp with rfl | hp
   ·rw [List.getElem?_set,List.getElem?_set,if_pos rfl,if_pos rfl,hl]
   ·exact (hn p hp rfl).elim
theorem ED:∀ (m:List (Nat×Ob)) (H:List Ob) (r:Nat) (o:Ob),(eY H m)[r]? = some o->H[r]? = some o\/∃ p∈m,p.2=o
 | [],_,_,_,h => .inl h
 | (i,q)::m,H,r,o,h=>by
  rcases ED m _ r o h with h1 | ⟨p,hp,e⟩
  ·rw [List.getElem?_set] at h1
   split at h1
   ·split at h1
    ·cases h1
     exact .inr ⟨(i,q),by simp,rfl⟩
    ·cases h1
   ·exact .inl h1
  ·exact .inr ⟨p,by simp [hp],e⟩
def bZ:Nat->List (List (Nat×Ob))->(Nat->Bool)->List Ob->List Ob
 | _,[],_,H=>H
 | k,m::ms,d,H=>bZ (k+1) ms d (bif d k then eY H m else H)
theorem mP:∀ (ms:List (List (Nat×Ob))) (k:Nat) (d:Nat->Bool) (H:List Ob),(bZ k ms d H).length=H.length
 | [],_,_,_=>rfl
 | m::ms,k,d,H=>by
  rw [bZ,mP ms]
  cases d k<;>simp [qM]
theorem FQ:∀ (ms:List (List (Nat×Ob))) (k:Nat) (d:Nat->Bool) (H:List Ob) (r:Nat),(∀ (q:Nat) m,ms[q]? = some m->d (k+q)=true->∀ p∈m,p.1≠r)->(bZ k ms d H)[r]? = H[r]?
 | [],_,_,_,_,_=>rfl
 | m::ms,k,d,H,r,h=>by
  rw [bZ,FQ ms (k+1) d _ r fun q m' hq hd=>h (q+1) m' (by simpa using hq) (by rwa [show k+(q+1)=k+1+q by omega])]
  cases hd:d k
  ·rfl
  ·exact kF m H r (h 0 m rfl hd)
theorem vP:∀ (ms:List (List (Nat×Ob))) (k:Nat) (d d':Nat->Bool) (H H':List Ob) (r:Nat),(∀ (q:Nat) m,ms[q]? = some m->(∃ p∈m,p.1=r)->d (k+q)=d' (k+q))->H.length=H'.length->H[r]? = H'[r]? -> (bZ k ms d H)[r]? = (bZ k ms d' H')[r]?
 | [],_,_,_,_,_,_,_,_,h=>h
 | m::ms,k,d,d',H,H',r,h,hl,hr=>by
  rw [bZ,bZ]
  refine vP ms (k+1) d d' _ _ r (fun q m' hq hp=>by have:=h (q+1) m' (by simpa using hq) hp;rwa [show k+(q+1)=k+1+q by omega] at this) ?_ ?_
  ·cases d k<;>cases d' k<;>simp [qM,hl]
  ·by_cases hm:∃ p∈m,p.1=r
   ·have e:d k=d' k:=h 0 m rfl hm
    rw [← e]
    cases d k
    ·exact hr
    ·exact zZ m H H' r hl hm
   ·have hn:∀ p∈m,p.1≠r:=fun p hp e=>hm ⟨p,hp,e⟩
    cases d k<;>cases d' k<;>simp [kF m _ r hn,hr]
theorem Nk:∀ (ms:List (List (Nat×Ob))) (k j:Nat) (m:List (Nat×Ob)) (d:Nat->Bool) (H:List Ob),ms[j]? = some m->d (k+j)=false->(∀ (q:Nat) m',j<q->ms[q]? = some m'->d (k+q)=true->∀ p∈m,∀ p'∈m',p'.1≠p.1)->bZ k ms (fun i=>Nat.beq i (k+j) || d i) H=eY (bZ k ms d H) m:=fun ms k j m d H hm hd hdis=>by
 refine List.ext_getElem? fun r =>?_
 by_cases hr:∃ p∈m,p.1=r
 ·have key:∀ (ms:List (List (Nat×Ob))) (k j:Nat) (H H':List Ob),H.length=H'.length->ms[j]? = some m->(∀ (q:Nat) m',j<q->ms[q]? = some m'->d (k+q)=true->∀ p∈m,∀ p'∈m',p'.1≠p.1)->(bZ k ms (fun i=>Nat.beq i (k+j) || d i) H)[r]? = (eY H' m)[r]? := by
   intro ms
   induction ms with
   | nil=>intro k j H H' _ h;simp at h
   | cons m0 ms ih =>
    intro k j H H' hl hj hdis
    rw [bZ]
    cases j with
    | zero =>
     simp only [List.getElem?_cons_zero,Option.some.injEq] at hj
     subst hj
     rw [FQ]
     ·rw [Nat.add_zero,Nat.beq_refl,Bool.true_or,cond_true]
      exact zZ m0 H H' r hl hr
     ·intro q m' hq hdq p' hp' e
      obtain ⟨p,hp,e2⟩:=hr
      have hne:Nat.beq (k+1+q) (k+0)=false:=by rw [Bool.eq_false_iff];exact fun h=>by have:=Nat.eq_of_beq_eq_true h;omega
      rw [hne,Bool.false_or] at hdq
      exact hdis (q+1) m' (by omega) (by simpa using hq) (by rwa [show k+(q+1)=k+1+q by omega]) p hp p' hp' (e.trans e2.symm)
    | succ j =>
     have:=ih (k+1) j (bif Nat.beq k (k+(j+1)) || d k then eY H m0 else H) H' (by cases (Nat.beq k (k+(j+1)) || d k)<;>simp [qM,hl]) (by simpa using hj) fun q m' hq1 hq2 hq3=>hdis (q+1) m' (by omega) (by simpa using hq2) (by rwa [show k+(q+1)=k+1+q by omega])
     rwa [show k+1+j=k+(j+1) by omega] at this
  exact key ms k j H (bZ k ms d H) (mP ms k d H).symm hm hdis
 ·have hn:∀ p∈m,p.1≠r:=fun p hp e=>hr ⟨p,hp,e⟩
  rw [kF m _ r hn]
  refine vP ms k _ _ H H r (fun q m' hq hp =>?_) rfl rfl
  have hqj:q≠j:=fun e=>by
   subst e
   rw [hm] at hq
   cases hq
   exact hr hp
  have hne:Nat.beq (k+q) (k+j)=false:=by rw [Bool.eq_false_iff];exact fun h=>by have:=Nat.eq_of_beq_eq_true h;omega
  rw [hne,Bool.false_or]
theorem uf:∀ (ms ms':List (List (Nat×Ob))) (k:Nat) (d:Nat->Bool) (H:List Ob),bZ k (ms++ms') d H=bZ (k+ms.length) ms' d (bZ k ms d H)
 | [],_,_,_,_=>rfl
 | m::ms,ms',k,d,H=>by
  rw [List.cons_append,bZ,uf ms ms' (k+1),bZ,List.length_cons,show k+1+ms.length=k+(ms.length+1) by omega]
theorem rV:∀ (ms:List (List (Nat×Ob))) (k:Nat) (d d':Nat->Bool) (H:List Ob),(∀ q,q<ms.length->d (k+q)=d' (k+q))->bZ k ms d H=bZ k ms d' H
 | [],_,_,_,_,_=>rfl
 | m::ms,k,d,d',H,h=>by
  have h0:d k=d' k:=h 0 (by simp)
  rw [bZ,bZ,h0]
  exact rV ms (k+1) d d' _ fun q hq=>by have:=h (q+1) (by simpa using hq);rwa [show k+(q+1)=k+1+q by omega] at this
theorem qC:∀ (ms:List (List (Nat×Ob))) (k:Nat) (d:Nat->Bool) (H:List Ob),(∀ q,q<ms.length->d (k+q)=false)->bZ k ms d H=H
 | [],_,_,_,_=>rfl
 | m::ms,k,d,H,h=>by
  have h0:d k=false:=h 0 (by simp)
  rw [bZ,h0]
  exact qC ms (k+1) d _ fun q hq=>by have:=h (q+1) (by simpa using hq);rwa [show k+(q+1)=k+1+q by omega] at this
def vJ:List Oper->List Nat->List Nat
 | [],acc=>acc
 | o::l,acc=>vJ l (acc++[(o.after.toList.filter fun e=>Region.binds .any e).foldl (fun s e=>s ||| (1 <<< e.on) ||| acc.getD e.on 0) 0])
theorem Ju {acc:List Nat} {j:Nat}:∀ (es:List Edge) (s:Nat),(es.foldl (fun s e=>s ||| (1 <<< e.on) ||| acc.getD e.on 0) s).testBit j=true->s.testBit j=true\/∃ e∈es,e.on=j\/(acc.getD e.on 0).testBit j=true
 | [],s,h => .inl h
 | e::es,s,h=>by
  rcases Ju es _ h with h1 | ⟨e',h1,h2⟩
  ·rw [Nat.testBit_or,Nat.testBit_or,Bool.or_eq_true,Bool.or_eq_true] at h1
   rcases h1 with (h1 | h1) | h1
   ·exact .inl h1
   ·rw [Nat.one_shiftLeft,Nat.testBit_two_pow] at h1
    exact .inr ⟨e,by simp,.inl (of_decide_eq_true h1)⟩
   ·exact .inr ⟨e,by simp,.inr h1⟩
  ·exact .inr ⟨e',by simp [h1],h2⟩
theorem BX:∀ (l:List Oper) (acc:List Nat) (k:Nat),k<acc.length->(vJ l acc).getD k 0=acc.getD k 0
 | [],_,_,_=>rfl
 | o::l,acc,k,h=>by
  rw [vJ,BX l _ k (by simp;omega)]
  rw [List.getD_eq_getElem?_getD,List.getElem?_append_left h,← List.getD_eq_getElem?_getD]
theorem Hr:∀ (l:List Oper) (acc:List Nat) (q:Nat) (o:Oper) (j:Nat),l[q]? = some o->((vJ l acc).getD (acc.length+q) 0).testBit j=true->∃ e∈o.after,Region.binds .any e=true/\(e.on=j\/(e.on<acc.length+q/\((vJ l acc).getD e.on 0).testBit j=true))
 | [],_,q,o,j,h,_=>by simp at h
 | o'::l,acc,q,o,j,h,hj=>by
  rw [vJ] at hj ⊢
  generalize hx:(o'.after.toList.filter fun e=>Region.binds .any e).foldl (fun s e=>s ||| (1 <<< e.on) ||| acc.getD e.on 0) 0=x at hj ⊢
  cases q with
  | zero =>
   simp only [List.getElem?_cons_zero,Option.some.injEq] at h
   subst h
   rw [Nat.add_zero,BX l _ _ (by simp)] at hj
   rw [List.getD_eq_getElem?_getD,List.getElem?_append_right (Nat.le_refl _),Nat.sub_self] at hj
   have hj:x.testBit j=true:=hj
   rw [← hx] at hj
   rcases Ju _ _ hj with h1 | ⟨e,h1,h2⟩
   ·simp at h1
   ·obtain ⟨h3,h4⟩:=List.mem_filter.1 h1
    refine ⟨e,by simpa using h3,h4,?_⟩
    rcases h2 with h2 | h2
    ·exact .inl h2
    ·right
     have hlt:e.on<acc.length:=by
      rcases Nat.lt_or_ge e.on acc.length with h5 | h5
      ·exact h5
      ·rw [List.getD_eq_getElem?_getD,List.getElem?_eq_none h5] at h2
       simp at h2
     refine ⟨by omega,?_⟩
     rw [BX l _ _ (by simp;omega),List.getD_eq_getElem?_getD,List.getElem?_append_left hlt,← List.getD_eq_getElem?_getD]
     exact h2
  | succ q =>
   have h5:=Hr l (acc++[x]) q o j (by simpa using h) (by rwa [show (acc++[x]).length+q=acc.length+(q+1) by simp;omega])
   obtain ⟨e,h6,h7,h8⟩:=h5
   refine ⟨e,h6,h7,?_⟩
   rcases h8 with h8 | ⟨h8,h9⟩
   ·exact .inl h8
   ·exact .inr ⟨by simp at h8;omega,h9⟩
theorem Cb {ops:Array Oper} {listed:Array Bool} (h:shut ops listed):∀ (k:Nat) (o:Oper) (j:Nat),ops[k]? = some o->(∀ e∈o.after,Region.binds .any e=true->listed.getD e.on false=true)->(((vJ ops.toList []).getD k 0).testBit j)=true->listed.getD j false=true:=fun k=>by
 induction k using Nat.strongRecOn with
 | ind k ih =>
  intro o j ho hall hj
  obtain ⟨e,h1,h2,h3⟩:=Hr ops.toList [] k o j (by simpa using ho) (by simpa using hj)
  have h4:=hall e h1 h2
  rcases h3 with h3 | ⟨h3,h5⟩
  ·rw [← h3];exact h4
  ·simp only [List.length_nil,Nat.zero_add] at h3
   have hk:=(Array.getElem?_eq_some_iff.1 ho).1
   exact ih e.on h3 ops[e.on] j (by simp) (h e.on ops[e.on] (by simp) h4) h5
def Ci:Nat->List Oper->Bool
 | _,[]=>true
 | k,o::l=>(o.after.all fun e => !(Region.binds .any e) || Nat.blt e.on k) && Ci (k+1) l
theorem FM:∀ {l:List Oper} {k q:Nat} {o:Oper} {e:Edge},Ci k l=true->l[q]? = some o->e∈o.after->Region.binds .any e=true->e.on<k+q
 | [],_,q,_,_,_,h,_,_=>by simp at h
 | o'::l,k,q,o,e,h,hq,he,hb=>by
  simp only [Ci,Bool.and_eq_true] at h
  cases q with
  | zero =>
   simp only [List.getElem?_cons_zero,Option.some.injEq] at hq
   subst hq
   have:=Array.all_eq_true'.1 h.1 e he
   rw [hb] at this
   simpa using this
  | succ q =>
   have:=FM h.2 (by simpa using hq) he hb
   omega
theorem BZ {ops:Array Oper} (h:Ci 0 ops.toList=true):∀ (k j:Nat),k<ops.size->((vJ ops.toList []).getD k 0).testBit j=true->j<k:=fun k=>by
 induction k using Nat.strongRecOn with
 | ind k ih =>
  intro j hk hj
  obtain ⟨e,h1,h2,h3⟩:=Hr ops.toList [] k ops[k] j (by simp [hk]) (by simpa using hj)
  have h4:=FM h (q:=k) (o:=ops[k]) (by simp [hk]) h1 h2
  rcases h3 with h3 | ⟨h3,h5⟩
  ·omega
  ·simp only [List.length_nil,Nat.zero_add] at h3
   have:=ih e.on h3 j (by omega) h5
   omega
def slotsOf:List (Nat×List Nat)->Nat->List Nat
 | [],_=>[]
 | (j,l)::S,k=>bif Nat.beq j k then l++slotsOf S k else slotsOf S k
def Wof (D:List Nat):List (Nat×List Nat)->Nat->List Nat
 | [],_=>D
 | (j,l)::X,k=>bif Nat.beq j k then l else Wof D X k
def Pm (ops:Array Oper) (S:List (Nat×List Nat)) (D:List Nat) (X:List (Nat×List Nat)):Bool:=(fun A=>(List.range ops.size).all fun k=>S.all fun p=>Nat.beq p.1 k || Nat.testBit (A.getD k 0) p.1 || Nat.testBit (A.getD p.1 0) k || p.2.all fun s=>(Wof D X k).contains s) (vJ ops.toList [])
theorem uI:∀ {S:List (Nat×List Nat)} {k s:Nat},s∈slotsOf S k->∃ l,(k,l)∈S/\s∈l
 | [],_,_,h=>by simp [slotsOf] at h
 | (j,l)::S,k,s,h=>by
  rw [slotsOf] at h
  cases e:Nat.beq j k with
  | true =>
   rw [e,cond_true,List.mem_append] at h
   rcases h with h | h
   ·exact ⟨l,by rw [Nat.eq_of_beq_eq_true e];simp,h⟩
   ·obtain ⟨l',h1,h2⟩:=uI h
    exact ⟨l',by simp [h1],h2⟩
  | false =>
   rw [e,cond_false] at h
   obtain ⟨l',h1,h2⟩:=uI h
   exact ⟨l',by simp [h1],h2⟩
theorem Gt:∀ {S:List (Nat×List Nat)} {k s:Nat} {l:List Nat},(k,l)∈S->s∈l->s∈slotsOf S k
 | [],_,_,_,h,_=>by simp at h
 | (j,l')::S,k,s,l,h,hs=>by
  rw [slotsOf]
  rcases List.mem_cons.1 h with h | h
  ·cases h
   rw [Nat.beq_refl,cond_true]
   exact List.mem_append_left _ hs
  ·have:=Gt h hs
   cases Nat.beq j k
   ·exact this
   ·exact List.mem_append_right _ this
theorem Rt {ops:Array Oper} {S:List (Nat×List Nat)} {D:List Nat} {X:List (Nat×List Nat)} (h:Pm ops S D X=true) {k j s:Nat} (hk:k<ops.size) (hj:j≠k) (hs:s∈slotsOf S j) (hw:s ∉ Wof D X k):((vJ ops.toList []).getD k 0).testBit j=true\/((vJ ops.toList []).getD j 0).testBit k=true:=by
 obtain ⟨l,h1,h2⟩:=uI hs
 have h3:=List.all_eq_true.1 (List.all_eq_true.1 h k (by simpa using hk)) (j,l) h1
 simp only [Bool.or_eq_true] at h3
 rcases h3 with ((h3 | h3) | h3) | h3
 ·exact (hj (Nat.eq_of_beq_eq_true h3)).elim
 ·exact .inl h3
 ·exact .inr h3
 ·exact (hw (by simpa using List.all_eq_true.1 h3 s h2)).elim
def UH (S:List (Nat×List Nat)) (k s:Nat):Bool:=S.all fun p=>Nat.ble k p.1 || !(p.2.contains s)
theorem vS {S:List (Nat×List Nat)} {k s:Nat} (h:UH S k s=true):∀ j,j<k->s ∉ slotsOf S j:=fun j hj hs=>by
 obtain ⟨l,h1,h2⟩:=uI hs
 have:=List.all_eq_true.1 h (j,l) h1
 simp only [Bool.or_eq_true] at this
 rcases this with h3 | h3
 ·have:=Nat.le_of_ble_eq_true h3
  omega
 ·simp [h2] at h3
def nmB (S:List (Nat×List Nat)) (D:List Nat) (X:List (Nat×List Nat)) (n0 k i:Nat):Bool:=Nat.blt i n0 || (!((Wof D X k).contains i) && S.any fun p=>Nat.ble p.1 k && p.2.contains i)
def Fj (S:List (Nat×List Nat)) (D:List Nat) (X:List (Nat×List Nat)) (n0 k:Nat):List Lf->Bool
 | []=>true
 | y::ys=>(match y with
  | .own i=>nmB S D X n0 k i
  | .ptr i _=>nmB S D X n0 k i
  | .oa i _ _ _=>nmB S D X n0 k i
  | _=>true) && Fj S D X n0 k ys
theorem KY {S:List (Nat×List Nat)} {D:List Nat} {X:List (Nat×List Nat)} {n0 k:Nat}:∀ {ys:List Lf},Fj S D X n0 k ys=true->∀ y∈ys,∀ s,y.nm=some s->s<n0\/(s ∉ Wof D X k/\∃ j,j<=k/\s∈slotsOf S j)
 | [],_,y,hy,_,_=>by simp at hy
 | z::ys,h,y,hy,s,hs=>by
  simp only [Fj,Bool.and_eq_true] at h
  rcases List.mem_cons.1 hy with rfl | hy
  ·have h1:nmB S D X n0 k s=true:=by
    cases y<;>simp only [Lf.nm,Option.some.injEq,reduceCtorEq] at hs<;>subst hs<;>exact h.1
   simp only [nmB,Bool.or_eq_true,Bool.and_eq_true] at h1
   rcases h1 with h1 | ⟨h1,h2⟩
   ·exact .inl (by simpa using h1)
   ·obtain ⟨⟨j,l⟩,h3,h4⟩:=List.any_eq_true.1 h2
    simp only [Bool.and_eq_true] at h4
    exact .inr ⟨by simpa using h1,j,Nat.le_of_ble_eq_true h4.1,Gt h3 (by simpa using h4.2)⟩
  ·exact KY h.2 y hy s hs
section
variable {P:Program} {cf:Cfg} {b:Base} {N:Nat} {ops:Array Oper} {S:List (Nat×List Nat)} {D:List Nat} {X:List (Nat×List Nat)} {n0 n:Nat} {H0:List Ob}
def Lf.isB:Lf->Bool
 | .b _=>true
 | _=>false
def okG (P:Program) (cf:Cfg) (b:Base) (N:Nat) (ops:Array Oper) (S:List (Nat×List Nat)) (D:List Nat) (X:List (Nat×List Nat)) (n0 n:Nat) (H0:List Ob) (mods:List (List (Nat×Ob))) (k:Nat) (o:Oper) (T:Tm) (v:Bool×AV):Prop :=
 ∃ m fr,mods[k]? = some m/\(∀ p∈m,p.1<n/\p.1 ∉ Wof D X k/\p.1∈slotsOf S k)/\(∀ s∈fr,n0<=s/\s∈slotsOf S k/\s ∉ Wof D X k/\∀ j,j<k->s ∉ slotsOf S j)/\Fj S D X n0 k v.2.leaves=true/\(∀ p∈m,Fj S D X n0 k (nJ p.2)=true) /\
  ((m=[]/\∀ H',H'.length=n->agree n (Wof D X k) (bZ 0 (mods.take k) (fun _=>true) H0) H'->oN P cf H' N ops o T v)\/∀ H',H'.length=n->agree n (Wof D X k) (bZ 0 (mods.take k) (fun _=>true) H0) H'->NP P cf b N fr H' (eY H' m) o T v)
theorem Lc {mods:List (List (Nat×Ob))}:DZ ops (okG P cf b N ops S D X n0 n H0 mods):=fun i o T T' v h hg k=>by
 obtain ⟨m,fr,h1,h2,h3,h4,h5,h6⟩:=k
 refine ⟨m,fr,h1,h2,h3,h4,h5,?_⟩
 rcases h6 with ⟨h6,h7⟩ | h6
 ·exact .inl ⟨h6,fun H' hl ha=>nM h hg (h7 H' hl ha)⟩
 ·exact .inr fun H' hl ha=>NQ h (h6 H' hl ha)
theorem EU {mods:List (List (Nat×Ob))} {Qf:Tm->Prop} {Q':Exit->Act->World->Prop} (hml:mods.length=ops.size) (hn:H0.length=n) (hcf:Pm ops S D X=true) (hbk:Ci 0 ops.toList=true) (hms:∀ (j:Nat) m,mods[j]? = some m->∀ p∈m,p.1∈slotsOf S j)
  (hQ:∀ φ β M T a w,RA P cf b N φ β M ⟨T,bZ 0 mods (fun _=>true) H0⟩ a w->Qf T->Q' .normal a w):∀ (fuel:Nat) (listed:Array Bool) (φ:Nat->Value) (β:Nat->Nat->Prop) (M:Mem) (T:Tm) (a:Act) (w:World),listed.size=ops.size->shut ops listed ->
  RA P cf b N φ β M ⟨T,bZ 0 mods (fun j=>listed.getD j false) H0⟩ a w->(∀ s,n0<=s->(∀ j,s∈slotsOf S j->listed.getD j false=false)->Df s T/\JY s (bZ 0 mods (fun j=>listed.getD j false) H0)) ->
  CU ops (okG P cf b N ops S D X n0 n H0 mods) (fun listed T=>(∀ j,j<ops.size->listed.getD j false=true)/\Qf T) fuel listed T->wpAny P .any ops Q' fuel listed a w:=by
 have hend:∀ (listed:Array Bool) (φ:Nat->Value) (β:Nat->Nat->Prop) (M:Mem) (T:Tm) (a:Act) (w:World),RA P cf b N φ β M ⟨T,bZ 0 mods (fun j=>listed.getD j false) H0⟩ a w->((∀ j,j<ops.size->listed.getD j false=true)/\Qf T)->Q' .normal a w:=fun listed φ β M T a w hR ⟨h1,h2⟩=>by
  rw [rV mods 0 (fun j=>listed.getD j false) (fun _=>true) H0 fun q hq=>by rw [Nat.zero_add];exact h1 q (by omega)] at hR
  exact hQ _ _ _ _ _ _ hR h2
 intro fuel
 induction fuel with
 | zero =>
  intro listed φ β M T a w hsz hsh hR hfr h
  exact ⟨h.1,hend listed φ β M T a w hR h.2⟩
 | succ fuel ih =>
  intro listed φ β M T a w hsz hsh hR hfr h
  refine ⟨fun h0=>hend listed φ β M T a w hR (h.1 h0),fun i hi =>?_⟩
  obtain ⟨o,v,ho,h1,h2⟩:=h.2 i hi
  obtain ⟨hiu,o',ho',hall⟩:=mem_ready.1 hi
  rw [ho] at ho'
  cases ho'
  have hio:=(Array.getElem?_eq_some_iff.1 ho).1
  have hil:i<listed.size:=by rw [hsz];exact hio
  have hiu':listed.getD i false=false:=by
   simp [hil] at hiu ⊢
   exact hiu
  have hself:(listed.setIfInBounds i true).getD i false=true:=by simp [hil]
  have hoth:∀ j,j≠i->(listed.setIfInBounds i true).getD j false=listed.getD j false:=fun j hj=>getD_set_ne false (fun e'=>hj e'.symm)
  have hsh':=lF hi hsh
  obtain ⟨m,fr,k1,k2,k3,k4,k5,k6⟩:=h1
  have hord:∀ j s,j≠i->s∈slotsOf S j->s ∉ Wof D X i->j<ops.size->(listed.getD j false=true/\((vJ ops.toList []).getD i 0).testBit j=true)\/(listed.getD j false=false/\((vJ ops.toList []).getD j 0).testBit i=true):=fun j s hj hs hw hjo=>by
   rcases Rt hcf hio hj hs hw with h5 | h5
   ·exact .inl ⟨Cb hsh i o j ho hall h5,h5⟩
   ·refine .inr ⟨?_,h5⟩
    cases e:listed.getD j false with
    | false=>rfl
    | true =>
     have:=Cb hsh j ops[j] i (by simp [hjo]) (hsh j ops[j] (by simp [hjo]) e) h5
     rw [hiu'] at this
     cases this
  obtain ⟨Hd,hHd⟩:∃ Hd,Hd=bZ 0 mods (fun j=>listed.getD j false) H0:=⟨_,rfl⟩
  have hHl:Hd.length=n:=by rw [hHd,mP,hn]
  have hmj:∀ (q:Nat) m',mods[q]? = some m'->q<ops.size:=fun q m' hq=>by rw [← hml];exact (List.getElem?_eq_some_iff.1 hq).1
  have hfull:bZ 0 (mods.take i) (fun _=>true) H0=bZ 0 mods (fun j=>decide (j<i)) H0:=by
   have e0:mods=mods.take i++mods.drop i:=(List.take_append_drop i mods).symm
   conv=>rhs;rw [e0]
   have hti:(mods.take i).length=i:=by rw [List.length_take,hml];omega
   rw [uf,hti,qC (mods.drop i) _ _ _ fun q _=>by simp]
   exact rV _ 0 _ _ H0 fun q hq=>by rw [hti] at hq;simp [hq]
  have hag:agree n (Wof D X i) (bZ 0 (mods.take i) (fun _=>true) H0) Hd:=by
   refine ⟨by rw [mP,hn];exact Nat.le_refl _,by rw [hHl];exact Nat.le_refl _,fun r hr =>?_⟩
   simp only [qJ,Bool.and_eq_true,Bool.not_eq_true'] at hr
   have hrw:r ∉ Wof D X i:=by simpa using hr.2
   rw [hfull,hHd]
   refine vP mods 0 _ _ H0 H0 r (fun q m' hq ⟨p,hp,e⟩ =>?_) rfl rfl
   rw [Nat.zero_add]
   have hs:r∈slotsOf S q:=by rw [← e];exact hms q m' hq p hp
   have hqo:=hmj q m' hq
   by_cases hqi:q=i
   ·subst hqi
    rw [hiu']
    simp
   ·rcases hord q r hqi hs hrw hqo with ⟨h5,h6⟩ | ⟨h5,h6⟩
    ·have:=BZ hbk i q hio h6
     rw [h5]
     simpa using this
    ·have:=BZ hbk q i hqo h6
     rw [h5]
     simp
     omega
  have hd':(fun j=>(listed.setIfInBounds i true).getD j false)=fun j=>Nat.beq j (0+i) || listed.getD j false:=by
   funext j
   rw [Nat.zero_add]
   by_cases e:j=i
   ·subst e
    rw [hself,Nat.beq_refl,Bool.true_or]
   ·rw [hoth j e]
    cases e2:Nat.beq j i with
    | true=>exact (e (Nat.eq_of_beq_eq_true e2)).elim
    | false=>rw [Bool.false_or]
  have hnext:bZ 0 mods (fun j=>(listed.setIfInBounds i true).getD j false) H0=eY Hd m:=by
   rw [hd',hHd]
   refine Nk mods 0 i m _ H0 k1 (by rw [Nat.zero_add];exact hiu') fun q m' hq1 hq2 hq3 p hp p' hp' e =>?_
   rw [Nat.zero_add] at hq3
   obtain ⟨h5,h6,h7⟩:=k2 p hp
   rcases hord q p.1 (by omega) (by rw [← e];exact hms q m' hq2 p' hp') h6 (hmj q m' hq2) with ⟨h8,h9⟩ | ⟨h8,h9⟩
   ·have:=BZ hbk i q hio h9
    omega
   ·rw [h8] at hq3
    cases hq3
  have hnew:∀ s,n0<=s->(∀ j,s∈slotsOf S j->(listed.setIfInBounds i true).getD j false=false)->Df s T/\JY s Hd/\∀ ys,Fj S D X n0 i ys=true->∀ y∈ys,y.nm≠some s:=fun s hs0 hs=>by
   have hold:∀ j,s∈slotsOf S j->listed.getD j false=false:=fun j hj=>by
    by_cases e:j=i
    ·rw [e];exact hiu'
    ·rw [← hoth j e];exact hs j hj
   obtain ⟨h5,h6⟩:=hfr s hs0 hold
   refine ⟨h5,hHd ▸ h6,fun ys hy y hyy he =>?_⟩
   rcases KY hy y hyy s he with h7 | ⟨h7,j,h8,h9⟩
   ·omega
   ·by_cases e:j=i
    ·rw [e] at h9
     have:=hs i h9
     rw [hself] at this
     cases this
    ·rcases hord j s e h9 h7 (by omega) with ⟨h10,_⟩ | ⟨_,h11⟩
     ·rw [hold j h9] at h10
      cases h10
     ·have:=BZ hbk j i (by omega) h11
      omega
  have hput:∀ s,Df s T->UE s v.2->Df s (T.put o.dst v):=fun s h5 h6 t=>by
   cases hd:o.dst with
   | none=>exact h5 t
   | some t' =>
    simp only [Tm.put]
    cases Nat.beq t t' with
    | true=>exact h6
    | false=>exact h5 t
  have hfr':∀ s,n0<=s->(∀ j,s∈slotsOf S j->(listed.setIfInBounds i true).getD j false=false)->Df s (T.put o.dst v)/\JY s (bZ 0 mods (fun j=>(listed.setIfInBounds i true).getD j false) H0):=fun s hs0 hs=>by
   obtain ⟨h5,h6,h7⟩:=hnew s hs0 hs
   refine ⟨hput s h5 (h7 _ k4),?_⟩
   rw [hnext]
   intro r q hq
   rcases ED m Hd r q hq with h8 | ⟨p,hp,rfl⟩
   ·exact h6 r q h8
   ·exact h7 _ (k5 p hp)
  rw [← hHd] at hR
  unfold wpOp
  rw [ho]
  simp only
  rcases k6 with ⟨rfl,k6⟩ | k6
  ·have hok':=k6 Hd hHl hag
   have:=yF (Q:=Q') hR hok' (K:=wpAny P .any ops Q' fuel _) (fun M' a' w' _ hR'=>ih (listed.setIfInBounds i true) φ β M' _ a' w' (by simp [hsz]) hsh' (by rw [hnext];exact hR') hfr' h2)
   split
   ·rename_i hw
    rw [if_pos hw] at this
    exact .inl this
   ·rename_i hw
    rw [if_neg hw] at this
    exact this
  ·obtain ⟨hg,hE⟩:=k6 Hd hHl hag T fun _ _=>rfl
   have hw:Region.wanted o (yielded ops a.tmps)=true:=by simp [Region.wanted,hg]
   rw [if_pos hw]
   left
   refine hE φ β M a w _ _ hR (fun s hs =>?_) fun φ' β' M' a' w' hR'=>ih _ φ' β' M' _ a' w' (by simp [hsz]) hsh' (by rw [hnext];exact hR') hfr' h2
   obtain ⟨h5,h6,h7,h8⟩:=k3 s hs
   rw [hHd]
   refine hfr s h5 fun j hj =>?_
   by_cases e:j=i
   ·rw [e];exact hiu'
   ·by_cases hjo:j<ops.size
    ·rcases hord j s e hj h7 hjo with ⟨_,h10⟩ | ⟨h10,_⟩
     ·exact (h8 j (BZ hbk i j hio h10) hj).elim
     ·exact h10
    ·rw [Array.getD_eq_getD_getElem?,Array.getElem?_eq_none (by omega)]
     rfl
end
section
variable (P:Program) (cf:Cfg) (N:Nat) (ops:Array Oper) (S:List (Nat×List Nat)) (D:List Nat) (X:List (Nat×List Nat)) (n0 n:Nat)
def Dh (k:Nat) (l:List Nat):Bool:=l.all fun i=>Nat.blt i n && !((Wof D X k).contains i) && (slotsOf S k).contains i
def J3 (k:Nat) (o:Oper) (T:Tm) (H:List Ob) (K:Bool×AV->List (Nat×Ob)->Prop):Prop:=bU n (Wof D X k) H T o.op=true/\(guardOf ops o T).1/\(qev cf H T (guardOf ops o T).2 o.op).1/\K ((guardOf ops o T).2,(qev cf H T (guardOf ops o T).2 o.op).2) []
def zB (k:Nat) (H:List Ob) (K:Nat->Prop):Prop:=match slotsOf S k with
 | s::_=>Nat.ble n0 s=true/\UH S k s=true/\Dh S D X n k [s]=true/\H[s]? = some .gone/\K s
 | []=>False
def XV (k:Nat) (t:Nat) (i j m wd off:Nat) (oi om:Ob) (K:Bool×AV->List (Nat×Ob)->Prop):Prop:=match oK j oi,om.oO with
 | some (e,es,c),some (es',d)=>(match c.pV j d with
  | some c'=>Dh S D X n k [i,m]=true/\wd=1/\off=0/\i≠m/\es'=es/\j<c.len/\cf.sz t=1/\K (true,.und) [(i,.tree (e::es) c'),(m,.gone)]
  | none=>False)
 | _,_=>False
def Di (T:Tm) (H:List Ob) (c:Call) (i:Nat) (p':Ob) (r:AV):Prop:=∃ f xs args p,bQ T c=some (true,f,xs)/\(c.args.toList.all fun x=>(look T x).1)=true/\(c.args.toList.map fun x=>(look T x).2)++xs.map (fun y=>AV.lf y)=args.map (AV.map (Lf.ren (cu [i] n))) /\
 H[i]? = some p/\(nJ p).all Lf.isB=true/\(nJ p').all Lf.isB=true/\r.leaves.all Lf.isB=true/\bP P f args [true] [p] r [p']
def Dj (k:Nat) (o:Oper) (T:Tm) (H:List Ob) (K:Bool×AV->List (Nat×Ob)->Prop):Prop:=match o.op with
 | .alloc t=>o.guard=none/\cf.sz t≠0/\zB S D X n0 n k H fun s=>K (true,.lf (.ptr s 0)) [(s,.box ((cf.zero t).map fun v => .b (.val v)))]
 | .makeSlice t x y=>o.guard=none/\(match look T x,look T y,cf.ty t with
  | (true,.tv (.one (.b (.val (.int .i64 m))))),(true,.tv (.one (.b (.val (.int .i64 m'))))),.slice e=>(match zeros cf e m.toNat with
   | some c=>m=m'/\cf.sz e≠0/\0<=m/\m<=1073741824/\c.w=cf.sz e/\cf.zero e=ji c/\cf.bytes e<=4096/\zB S D X n0 n k H fun s=>K (true,.lf (.own s)) [(s,.row e c)]
   | none=>False)
  | _,_,_=>False)
 | .store t x y=>o.guard=none/\o.dst=none/\cf.sz t≠0/\(match look T x,look T y with
  | (true,.tv (.one (.ptr i off))),(true,.tv v)=>(match H[i]? with
   | some (.box cs)=>Dh S D X n k [i]=true/\jy n (Wof D X k) H (.tv v)=true/\v.dU H=true/\v.cs.length=cf.sz t/\off+v.cs.length<=cs.length/\K (true,.und) [(i,.box (splice cs off v.cs))]
   | _=>False)
  | (true,.tv (.one (.oa i wd j off))),(true,.tv v)=>(match H[i]? with
   | some (.row e c)=>(match c.put j off v with
    | some c'=>Dh S D X n k [i]=true/\jy n (Wof D X k) H (.tv v)=true/\v.dU H=true/\v.cs.length=cf.sz t/\wd=c.w/\j<c.len/\off+v.cs.length<=c.w/\K (true,.und) [(i,.row e c')]
    | none=>False)
   | some (.cut e e2 c k' _)=>(match v with
    | .one u=>Dh S D X n k [i]=true/\jy n (Wof D X k) H (.tv (.one u))=true/\Lf.dU H u=true/\wd=1/\off=0/\Nat.beq j k'=true/\j<c.len/\cf.sz t=1/\K (true,.und) [(i,.cut e e2 c k' u)]
    | _=>False)
   | some oi=>(match v with
    | .one (.own m)=>(match H[m]? with
     | some om=>XV cf S D X n k t i j m wd off oi om K
     | none=>False)
    | _=>False)
   | none=>False)
  | _,_=>False)
 | .buildSlice t m parts=>o.guard=none/\(match m,cf.ty t with
  | 0,.slice e=>(match emp cf e with
   | some c=>parts=#[]/\cf.sz e≠0/\zB S D X n0 n k H fun s=>K (true,.lf (.own s)) [(s,.row e c)]
   | none=>False)
  | m+1,.slice e=>parts.toList.map (·.1)=List.range (m+1)/\(match parts.toList.mapM (fun p=>match look T p.2 with | (true,.tv v)=>some v | _=>none) with
   | some vs=>(match sF vs with
    | some c=>cf.sz e≠0/\(m+1)*cf.sz e<=16777216/\(∀ v∈vs,v.cs.length=cf.sz e/\v.cs.all (Lf.dU H)=true/\jy n (Wof D X k) H (.tv v)=true)/\c.w=cf.sz e/\(match slotsOf S k with
     | []=>K (true,.sl c) []
     | _::_=>zB S D X n0 n k H fun s=>K (true,.lf (.own s)) [(s,.row e c)])
    | none=>False)
   | none=>False)
  | _,_=>False)
 | .call c=>(match c.callee,c.args.toList,c.argTypes.toList with
  | .builtin .append,[x,y],[t,t']=>o.guard=none/\t=t'/\(match look T x,look T y,cf.ty t with
   | (true,.tv (.one (.own i))),(true,v),.slice e=>(match H[i]? with
    | some (.tree (e'::e2::es) c)=>(match content H v with
     | some (.nl k0)=>(match c.addN k0 with
      | some c'=>Dh S D X n k [i]=true/\jy n (Wof D X k) H v=true/\e=e'/\cf.sz e=1/\0<k0/\c.deep=es.length+2/\c.len+k0<=1073741824/\cf.bytes e<=4096/\zB S D X n0 n k H fun s=>i≠s/\K (true,.lf (.own s)) [(i,.gone),(s,.tree (e'::e2::es) c')]
      | none=>False)
     | _=>False)
    | some (.row e' c)=>(match content H v with
     | some c2=>(match c.app c2 with
      | some c'=>Dh S D X n k [i]=true/\jy n (Wof D X k) H v=true/\e=e'/\cf.sz e≠0/\c.w=cf.sz e/\c.len+c2.len<=1073741824/\cf.bytes e<=4096/\zB S D X n0 n k H fun s=>i≠s/\K (true,.lf (.own s)) [(i,.gone),(s,.row e c')]
      | none=>False)
     | none=>False)
    | _=>False)
   | _,_,_=>False)
  | .builtin .append,_,_=>False
  | .value _,_,_=>(bU n (Wof D X k) H T o.op=true/\(guardOf ops o T).1/\∃ r,lI P H T (guardOf ops o T).2 c r/\K ((guardOf ops o T).2,r) [])\/(o.guard=none/\bU n (Wof D X k) H T o.op=true/\∃ r p,qV P H T c r [p]/\zB S D X n0 n k H fun s=>K (true,(r.map (Lf.ren (cu [] n))).map (Lf.mv s n)) [(s,(p.map (Lf.ren (cu [] n))).map (Lf.mv s n))])\/(o.guard=none/\∃ i p' r,Di P n T H c i p' r/\Dh S D X n k [i]=true/\K (true,r) [(i,p')])
  | _,_,_=>J3 cf ops D X n k o T H K)
 | _=>J3 cf ops D X n k o T H K
def dG (Q:Tm->List Ob->Prop):Nat->List Oper->Tm->List Ob->Prop
 | _,[],T,H=>Q T H
 | k,o::l,T,H=>o.dst.all (Nat.blt · N)=true/\Dj P cf ops S D X n0 n k o T H fun v m=>Fj S D X n0 k v.2.leaves=true/\(m.all fun p=>Fj S D X n0 k (nJ p.2))=true/\dG Q (k+1) l (T.put o.dst v) (eY H m)
end
section
variable {P:Program} {cf:Cfg} {b:Base} {N:Nat} {ops:Array Oper} {S:List (Nat×List Nat)} {D:List Nat} {X:List (Nat×List Nat)} {n0 n:Nat} {H H':List Ob} {T:Tm} {o:Oper}
theorem iR {W:List Nat} (ha:agree n W H H') {i:Nat} (hi:i<n) (hw:i ∉ W):H'[i]? = H[i]? := ha.2.2 i (by simp [qJ,hi,hw])
theorem sQ {W:List Nat} (ha:agree n W H H') {v:TV} (h:jy n W H (.tv v)=true):v.dU H'=v.dU H:=by
 have h1:∀ y∈v.leaves,bV n W H y=true:=List.all_eq_true.1 h
 have h2:∀ xs:List Lf,(∀ y∈xs,bV n W H y=true)->xs.all (Lf.dU H')=xs.all (Lf.dU H):=fun xs h=>by
  rw [Bool.eq_iff_iff,List.all_eq_true,List.all_eq_true]
  exact ⟨fun k x hx=>by rw [← uD ha (h x hx)];exact k x hx,fun k x hx=>by rw [uD ha (h x hx)];exact k x hx⟩
 cases v<;>exact h2 _ h1
theorem Ap {W:List Nat} (ha:agree n W H H') {v:AV} (h:jy n W H v=true):content H' v=content H v:=by
 cases v with
 | tv x=>cases x with
  | one x =>
   cases x with
   | own i =>
    have:qJ n W i=true:=by simpa [jy,AV.leaves,TV.leaves,bV] using h
    simp only [content]
    rw [ha.2.2 _ this]
   | b y=>cases y<;>rfl
   | _=>rfl
  | agg xs=>rfl
 | _=>rfl
theorem Rl {W:List Nat} (ha:agree n W H H') {c:Call} {r:AV} {Hout:List Ob} (h:bU n W H T (.call c)=true) (k:qV P H T c r Hout):qV P H' T c r Hout:=by
 obtain ⟨f,xs,vs,h1,h2,h4,h5⟩:=k
 refine ⟨f,xs,vs,h1,h2,?_,h5⟩
 simp only [bU,Bool.and_eq_true,List.all_eq_true] at h
 have hxs:∀ x∈xs,bV n W H x=true:=fun x hx=>by
  simp only [bQ] at h1
  split at h1
  ·rename_i x' hc
   rw [hc] at h
   split at h1
   ·rename_i f' xs' e
    simp only [Option.some.injEq,Prod.mk.injEq] at h1
    obtain ⟨_,e1,e2⟩:=h1
    rw [e1,e2] at e
    exact qp e _ (fun _ _=>rfl) h.1 x hx
   ·cases h1
  ·cases h1
 rw [← h4]
 unfold jF
 rw [mapM_congr fun x hx=>qQ ha (h.2 x hx),mapM_congr fun x hx=>qh ha (hxs x hx)]
def gOK (P:Program) (cf:Cfg) (b:Base) (N:Nat) (ops:Array Oper) (S:List (Nat×List Nat)) (D:List Nat) (X:List (Nat×List Nat)) (n0 n:Nat) (k:Nat) (o:Oper) (T:Tm) (H:List Ob) (v:Bool×AV) (m:List (Nat×Ob)):Prop :=
 ∃ fr,(∀ p∈m,p.1<n/\p.1 ∉ Wof D X k/\p.1∈slotsOf S k)/\(∀ s∈fr,n0<=s/\s∈slotsOf S k/\s ∉ Wof D X k/\∀ j,j<k->s ∉ slotsOf S j) /\
  ((m=[]/\∀ H',H'.length=n->agree n (Wof D X k) H H'->oN P cf H' N ops o T v)\/∀ H',H'.length=n->agree n (Wof D X k) H H'->NP P cf b N fr H' (eY H' m) o T v)
theorem fZ {k:Nat} {l:List Nat} (h:Dh S D X n k l=true):∀ i∈l,i<n/\i ∉ Wof D X k/\i∈slotsOf S k:=fun i hi=>by
 have:=List.all_eq_true.1 h i hi
 simp only [Bool.and_eq_true] at this
 exact ⟨by simpa using this.1.1,by simpa using this.1.2,by simpa using this.2⟩
theorem xW {k:Nat} {v:Nat->AV} {p:Nat->Ob} {K:Nat->Prop} (hfx:b.fx.length<=n0) (h:zB S D X n0 n k H K) (hm:∀ H',H'.length=n->agree n (Wof D X k) H H'->∃ p0 v0,jJ P cf b N H' (H'++[p0]) o T (true,v0)/\∀ s,p0.map (Lf.mv s H'.length)=p s/\v0.map (Lf.mv s H'.length)=v s):∃ s,K s/\gOK P cf b N ops S D X n0 n k o T H (true,v s) [(s,p s)]:=by
 unfold zB at h
 split at h
 ·rename_i s _ hs
  obtain ⟨h1,h2,h3,h4,h5⟩:=h
  obtain ⟨k1,k2,k3⟩:=fZ h3 s (by simp)
  refine ⟨s,h5,[s],fun q hq=>by simp at hq;subst hq;exact ⟨k1,k2,k3⟩,fun s' hs'=>by simp at hs';subst hs';exact ⟨Nat.le_of_ble_eq_true h1,k3,k2,vS h2⟩,.inr fun H' hl ha =>?_⟩
  obtain ⟨p0,v0,m1,m2⟩:=hm H' hl ha
  have h6:H'[s]? = some .gone:=(iR ha k1 k2).trans h4
  have:=zN m1 rfl h6 (by have:=Nat.le_of_ble_eq_true h1;omega) fun i q hi => .inr hi
  rw [(m2 s).1,(m2 s).2] at this
  exact this
 ·exact h.elim
theorem Vo (f:Lf->Lf) (hf:∀ x,f (.b x) = .b x) (vs:List Value):(Ob.box (vs.map fun v => .b (.val v))).map f = .box (vs.map fun v => .b (.val v)):=by
 simp only [Ob.map,List.map_map]
 congr 1
 exact List.map_congr_left fun v _=>hf _
theorem wE (s n:Nat):(AV.lf (.own n)).map (Lf.mv s n) = .lf (.own s):=by simp [AV.map,TV.map,Lf.mv]
theorem NV (s n:Nat):(AV.lf (.ptr n 0)).map (Lf.mv s n) = .lf (.ptr s 0):=by simp [AV.map,TV.map,Lf.mv]
theorem P8 {f:Lf->Lf} (hf:∀ x,f (.b x) = .b x) {y:Lf} (h:y.isB=true):f y=y:=by
 cases y<;>simp [Lf.isB] at h
 exact hf _
theorem Nq {y:Lf} (h:y.isB=true) (n:Nat):y.ltB n=true:=by cases y<;>simp [Lf.isB] at h;rfl
theorem Gf (y:Lf):y.eG []=y:=by cases y<;>rfl
theorem JZ {c:Call} {i:Nat} {p':Ob} {r:AV} (hd:o.dst.all (Nat.blt · N)=true) (hg:o.guard=none) (hl:H.length=n) (hi:i<n) (ho:o.op = .call c) (h:Di P n T H c i p' r):NP P cf b N [] H (eY H [(i,p')]) o T (true,r):=by
 obtain ⟨f,xs,args,p,h1,h2,h3,h4,h5,h6,h7,h8⟩:=h
 have hp:∀ {q:Ob} {g:Lf->Lf},(nJ q).all Lf.isB=true->(∀ x,g (.b x) = .b x)->q.map g=q:=fun hq hg'=>Ob.map_eq fun y hy=>P8 hg' (List.all_eq_true.1 hq y hy)
 have hr:∀ {g:Lf->Lf},(∀ x,g (.b x) = .b x)->r.map g=r:=fun hg'=>AV.map_eq fun y hy=>P8 hg' (List.all_eq_true.1 h7 y hy)
 have hlt:p.lt [p].length:=by
  cases p with
  | box cs=>exact fun y hy=>Nq (List.all_eq_true.1 h5 y hy) _
  | hole e es c k x=>exact Nq (List.all_eq_true.1 h5 x (by simp [nJ])) _
  | cut e e2 c k x=>exact Nq (List.all_eq_true.1 h5 x (by simp [nJ])) _
  | _=>trivial
 intro T' hT'
 rw [ho] at hT'
 have hT:∀ x∈c.args.toList,look T' x=look T x:=fun x hx=>hT' x (by simp only [Op.operands,Call.operands];first | (simp only [Array.mem_append,Array.mem_toList_iff];exact .inr (by simpa using hx)) | (cases c.callee<;>simp<;>first | exact .inr (by simpa using hx) | exact by simpa using hx))
 have hcal:bQ T' c=bQ T c:=by
  unfold bQ
  cases hc:c.callee with
  | value x=>simp only;rw [hT' x (by simp [Op.operands,Call.operands,hc])]
  | _=>rfl
 refine ⟨hg,fun φ β M a w K Q hR _ hK =>?_⟩
 have hCA:OO P b.fx ⟨T',H⟩ c [i] r [p'] []:=⟨⟨f,xs,args,[true],[p],by rw [hcal];exact h1,fun x hx=>by rw [hT x hx];exact List.all_eq_true.1 h2 x hx,by
  show (c.args.toList.map fun x=>(look T' x).2)++_=args.map (AV.map (Lf.ren (cu [i] H.length)))
  rw [hl,← h3]
  congr 1
  exact List.map_congr_left fun x hx=>by rw [hT x hx],⟨by rw [hp h5 (fun _=>rfl)];exact h4,trivial⟩,fun q hq=>by simp at hq;subst hq;exact hlt,h8,rfl⟩,by simp,fun s hs=>by simp at hs;subst hs;show s<H.length;omega,fun s hs=>by simp at hs⟩
 refine CQ hR hd ho hCA fun φ' β' M' a' w' hR'=>hK φ' β' M' a' w' ?_
 have e1:T'.map (Lf.eG [])=T':=by
  rw [show Lf.eG []=id from funext Gf]
  exact Tm.map_id T'
 have e2:H.map (Ob.map (Lf.eG []))=H:=by
  rw [show Lf.eG []=id from funext Gf,show Ob.map id=id from funext Ob.map_id,List.map_id]
 have e3:plug H [i] [p']=H.set i p':=by simp [plug]
 rw [e1,e2,hr (fun _=>rfl),List.map_cons,List.map_nil,hp h6 (fun _=>rfl),e3] at hR'
 exact hR'
theorem Aw {W:List Nat} {c:Call} {i:Nat} {p':Ob} {r:AV} (ha:agree n W H H') (hi:i<n) (hw:i ∉ W) (h:Di P n T H c i p' r):Di P n T H' c i p' r:=by
 obtain ⟨f,xs,args,p,h1,h2,h3,h4,h5⟩:=h
 exact ⟨f,xs,args,p,h1,h2,h3,(iR ha hi hw).trans h4,h5⟩
theorem Dk {k:Nat} {K:Bool×AV->List (Nat×Ob)->Prop} (hd:o.dst.all (Nat.blt · N)=true) (hfx:b.fx.length<=n0) (hl:H.length=n) (h:Dj P cf ops S D X n0 n k o T H K):∃ v m,K v m/\gOK P cf b N ops S D X n0 n k o T H v m:=by
 have hq:J3 cf ops D X n k o T H K->∃ v m,K v m/\gOK P cf b N ops S D X n0 n k o T H v m:=fun ⟨h1,h2,h3,h4⟩ =>
  ⟨_,_,h4,[],fun q hq=>by simp at hq,fun s hs=>by simp at hs,.inl ⟨rfl,fun H' _ ha=>pR ha h1 ⟨hd,h2,rfl,.inr ⟨h3,rfl⟩⟩⟩⟩
 unfold Dj at h
 split at h
 ·rename_i t ho
  obtain ⟨hg,hz,h⟩:=h
  obtain ⟨s,h1,h2⟩:=xW (P:=P) (cf:=cf) (b:=b) (N:=N) (ops:=ops) (T:=T) (o:=o) (v:=fun s => .lf (.ptr s 0)) (p:=fun _ => .box ((cf.zero t).map fun v => .b (.val v))) hfx h fun H' _ _=>⟨_,_,FN ho hg hd hz,fun s=>⟨Vo _ (fun _=>rfl) _,NV _ _⟩⟩
  exact ⟨_,_,h1,h2⟩
 ·rename_i t x y ho
  obtain ⟨hg,h⟩:=h
  split at h
  ·rename_i m m' e hx hy ht
   split at h
   ·rename_i c hc
    obtain ⟨rfl,hz,hm0,hm1,hw,hzv,hby,h⟩:=h
    obtain ⟨s,h1,h2⟩:=xW (P:=P) (cf:=cf) (b:=b) (N:=N) (ops:=ops) (T:=T) (o:=o) (v:=fun s => .lf (.own s)) (p:=fun _ => .row e c) hfx h fun H' _ _=>⟨_,_,Uu ho hg hd ht hz hx hy hm0 hm1 hc hw hzv hby,fun s=>⟨rfl,wE _ _⟩⟩
    exact ⟨_,_,h1,h2⟩
   ·exact h.elim
  ·exact h.elim
 ·rename_i t x y ho
  obtain ⟨hg,hd',hz,h⟩:=h
  split at h
  ·rename_i i off v hx hy
   split at h
   ·rename_i cs hi
    obtain ⟨h1,h2,h3,h4,h5,h⟩:=h
    obtain ⟨k1,k2,k3⟩:=fZ h1 i (by simp)
    exact ⟨_,_,h,[],fun q hq=>by simp at hq;subst hq;exact ⟨k1,k2,k3⟩,fun s hs=>by simp at hs,.inr fun H' _ ha=>yB (FP ho hg hd' hz hx hy ((iR ha k1 k2).trans hi) ((sQ ha h2).trans h3) h4 h5 _)⟩
   ·exact h.elim
  ·rename_i i wd j off v hx hy
   split at h
   ·rename_i e c hi
    split at h
    ·rename_i c' hp
     obtain ⟨h1,h2,h3,h4,h5,h6,h7,h⟩:=h
     obtain ⟨k1,k2,k3⟩:=fZ h1 i (by simp)
     exact ⟨_,_,h,[],fun q hq=>by simp at hq;subst hq;exact ⟨k1,k2,k3⟩,fun s hs=>by simp at hs,.inr fun H' _ ha=>yB (uS ho hg hd' hz hx hy ((iR ha k1 k2).trans hi) hp ((sQ ha h2).trans h3) h4 h5 h6 h7 _)⟩
    ·exact h.elim
   ·rename_i e e2 c k' z hi
    split at h
    ·rename_i u
     obtain ⟨h1,h2,h3,rfl,rfl,h4,h5,h6,h⟩:=h
     obtain rfl:=Nat.eq_of_beq_eq_true h4
     obtain ⟨k1,k2,k3⟩:=fZ h1 i (by simp)
     exact ⟨_,_,h,[],fun q hq=>by simp at hq;subst hq;exact ⟨k1,k2,k3⟩,fun s hs=>by simp at hs,.inr fun H' _ ha=>yB (XQ ho hg hd' h6 hx ((iR ha k1 k2).trans hi) hy (by have e1:=sQ ha h2;have e2:∀ H,(TV.one u).dU H=Lf.dU H u:=(fun H=>(by simp [TV.dU,TV.cs]));exact (e2 H').symm.trans (e1.trans ((e2 H).trans h3))) h5 _)⟩
    ·exact h.elim
   ·rename_i oi _ _ hi
    split at h
    ·rename_i m
     split at h
     ·rename_i om hm
      unfold XV at h
      split at h
      ·rename_i e es c es' d hh hot
       split at h
       ·rename_i c' hp
        obtain ⟨h1,rfl,rfl,hne,rfl,hj,hz1,h⟩:=h
        obtain ⟨k1,k2,k3⟩:=fZ h1 i (by simp)
        obtain ⟨k4,k5,k6⟩:=fZ h1 m (by simp)
        exact ⟨_,_,h,[],fun q hq=>by
         simp at hq
         rcases hq with rfl | rfl
         ·exact ⟨k1,k2,k3⟩
         ·exact ⟨k4,k5,k6⟩,fun s hs=>by simp at hs,.inr fun H' _ ha=>yB (XR ho hg hd' hz1 hx hy hne ((iR ha k1 k2).trans hi) ((iR ha k4 k5).trans hm) hh hot hj hp _)⟩
       ·exact h.elim
      ·exact h.elim
     ·exact h.elim
    ·exact h.elim
   ·exact h.elim
  ·exact h.elim
 ·rename_i t m parts ho
  obtain ⟨hg,h⟩:=h
  split at h
  ·rename_i e ht
   split at h
   ·rename_i c hc
    obtain ⟨rfl,hz,h⟩:=h
    obtain ⟨s,h1,h2⟩:=xW (P:=P) (cf:=cf) (b:=b) (N:=N) (ops:=ops) (T:=T) (o:=o) (v:=fun s => .lf (.own s)) (p:=fun _ => .row e c) hfx h fun H' _ _=>⟨_,_,JU ho hg hd ht hz hc,fun s=>⟨rfl,wE _ _⟩⟩
    exact ⟨_,_,h1,h2⟩
   ·exact h.elim
  ·rename_i m e ht
   obtain ⟨hidx,h⟩:=h
   split at h
   ·rename_i vs hvs
    split at h
    ·rename_i c hc
     obtain ⟨hz,hn,hsz,hw,h⟩:=h
     split at h
     ·exact ⟨_,_,h,[],fun q hq=>by simp at hq,fun s hs=>by simp at hs,.inr fun H' _ ha=>yB (PE ho hg hd ht hz (Nat.succ_pos _) hn hidx hvs (fun v hv=>⟨(hsz v hv).1,(sQ ha (hsz v hv).2.2).trans (hsz v hv).2.1⟩) hc hw)⟩
     ·obtain ⟨s,h1,h2⟩:=xW (P:=P) (cf:=cf) (b:=b) (N:=N) (ops:=ops) (T:=T) (o:=o) (v:=fun s => .lf (.own s)) (p:=fun _ => .row e c) hfx h fun H' _ ha=>⟨_,_,Ut ho hg hd ht hz (Nat.succ_pos _) hn hidx hvs (fun v hv=>⟨(hsz v hv).1,(sQ ha (hsz v hv).2.2).trans (hsz v hv).2.1⟩) hc hw,fun s=>⟨rfl,wE _ _⟩⟩
      exact ⟨_,_,h1,h2⟩
    ·exact h.elim
   ·exact h.elim
  ·exact h.elim
 ·rename_i c ho
  obtain ⟨cl,⟨as⟩,⟨ts⟩⟩:=c
  split at h
  ·rename_i x y t t' _ _ _
   simp only at *
   subst_vars
   obtain ⟨hg,rfl,h⟩:=h
   split at h
   ·rename_i i v e hx hy ht
    split at h
    ·rename_i e' e2 es c hi
     split at h
     ·rename_i k0 hc
      split at h
      ·rename_i c' hap
       obtain ⟨h1,h2,rfl,hz,hk0,hdp,hn,hby,h⟩:=h
       obtain ⟨k1,k2,k3⟩:=fZ h1 i (by simp)
       unfold zB at h
       split at h
       ·rename_i s _ hs
        obtain ⟨g1,g2,g3,g4,hne,h⟩:=h
        obtain ⟨k4,k5,k6⟩:=fZ g3 s (by simp)
        refine ⟨_,_,h,[s],fun q hq=>by
         simp at hq
         rcases hq with rfl | rfl
         ·exact ⟨k1,k2,k3⟩
         ·exact ⟨k4,k5,k6⟩,fun s' hs'=>by simp at hs';subst hs';exact ⟨Nat.le_of_ble_eq_true g1,k6,k5,vS g2⟩,.inr fun H' hl' ha =>?_⟩
        have h6:(H'.set i .gone)[s]? = some .gone:=by rw [List.getElem?_set,if_neg hne];exact (iR ha k4 k5).trans g4
        have:=zN (P:=P) (Nc (P:=P) (b:=b) ho hg hd ht hz hx ((iR ha k1 k2).trans hi) hy ((Ap ha h2).trans hc) hk0 hap hdp hn hby) (by simp) h6 (by have:=Nat.le_of_ble_eq_true g1;omega) fun r q hq=>by
         rw [List.getElem?_set] at hq
         split at hq
         ·split at hq
          ·cases hq;exact .inl rfl
          ·cases hq
         ·exact .inr hq
        rw [wE] at this
        exact this
       ·exact h.elim
      ·exact h.elim
     ·exact h.elim
    ·rename_i e' c hi
     split at h
     ·rename_i c2 hc
      split at h
      ·rename_i c' hap
       obtain ⟨h1,h2,rfl,hz,hw,hn,hby,h⟩:=h
       obtain ⟨k1,k2,k3⟩:=fZ h1 i (by simp)
       unfold zB at h
       split at h
       ·rename_i s _ hs
        obtain ⟨g1,g2,g3,g4,hne,h⟩:=h
        obtain ⟨k4,k5,k6⟩:=fZ g3 s (by simp)
        refine ⟨_,_,h,[s],fun q hq=>by
         simp at hq
         rcases hq with rfl | rfl
         ·exact ⟨k1,k2,k3⟩
         ·exact ⟨k4,k5,k6⟩,fun s' hs'=>by simp at hs';subst hs';exact ⟨Nat.le_of_ble_eq_true g1,k6,k5,vS g2⟩,.inr fun H' hl' ha =>?_⟩
        have h6:(H'.set i .gone)[s]? = some .gone:=by rw [List.getElem?_set,if_neg hne];exact (iR ha k4 k5).trans g4
        have:=zN (P:=P) (Us (P:=P) (b:=b) ho hg hd ht hz hx ((iR ha k1 k2).trans hi) hy ((Ap ha h2).trans hc) hw hap hn hby) (by simp) h6 (by have:=Nat.le_of_ble_eq_true g1;omega) fun r q hq=>by
         rw [List.getElem?_set] at hq
         split at hq
         ·split at hq
          ·cases hq;exact .inl rfl
          ·cases hq
         ·exact .inr hq
        rw [wE] at this
        exact this
       ·exact h.elim
      ·exact h.elim
     ·exact h.elim
    ·exact h.elim
   ·exact h.elim
  ·exact h.elim
  ·rename_i f e
   simp only at e
   subst e
   rcases h with ⟨hoff,hg,r,hc,h⟩ | ⟨hg,hoff,r,p,hc,h⟩ | ⟨hg,i,p',r,hc,h1,h⟩
   ·exact ⟨_,_,h,[],fun q hq=>by simp at hq,fun s hs=>by simp at hs,.inl ⟨rfl,fun H' _ ha=>pR ha (ho ▸ hoff) ⟨hd,hg,rfl,.inl ⟨_,ho,hc⟩⟩⟩⟩
   ·obtain ⟨s,h1,h2⟩:=xW (P:=P) (cf:=cf) (b:=b) (N:=N) (ops:=ops) (T:=T) (o:=o) (v:=fun s=>(r.map (Lf.ren (cu [] n))).map (Lf.mv s n)) (p:=fun s=>(p.map (Lf.ren (cu [] n))).map (Lf.mv s n)) hfx h fun H' hl' ha=>⟨(p.map (Lf.ren (cu [] n))),(r.map (Lf.ren (cu [] n))),fun T' hT=>⟨hg,fun φ β M a w K Q hR hK=>by
     have hT':∀ x∈(Call.operands ⟨.value f,⟨as⟩,⟨ts⟩⟩),look T' x=look T x:=by rw [ho] at hT;exact hT
     exact CS hR hd ho (Ai hT' (Rl ha (ho ▸ hoff) hc)) fun φ' β' a' w' hR'=>hK _ _ _ _ _ (by rw [hl'] at hR';exact hR')⟩,fun s=>⟨by rw [hl'],by rw [hl']⟩⟩
    exact ⟨_,_,h1,h2⟩
   ·obtain ⟨k1,k2,k3⟩:=fZ h1 i (by simp)
    exact ⟨_,_,h,[],fun q hq=>by simp at hq;subst hq;exact ⟨k1,k2,k3⟩,fun s hs=>by simp at hs,.inr fun H' hl' ha=>JZ hd hg hl' k1 ho (Aw ha k1 k2 hc)⟩
  ·exact hq h
 ·exact hq h
theorem Uj {H0:List Ob} {Q:Tm->List Ob->Prop} (hfx:b.fx.length<=n0) (hn:H0.length=n):∀ (l:List Oper) (k:Nat) (T:Tm) (mods0:List (List (Nat×Ob))),mods0.length=k->dG P cf N ops S D X n0 n Q k l T (bZ 0 mods0 (fun _=>true) H0) ->
  ∃ ms:List (List (Nat×Ob)),ms.length=l.length/\(∀ (q:Nat) m,ms[q]? = some m->∀ p∈m,p.1∈slotsOf S (k+q))/\dWI (okG P cf b N ops S D X n0 n H0 (mods0++ms)) (fun T=>Q T (bZ 0 (mods0++ms) (fun _=>true) H0)) k l T
 | [],k,T,mods0,hk,h=>⟨[],rfl,fun q m hq=>by simp at hq,by rw [List.append_nil];exact h⟩
 | o::l,k,T,mods0,hk,h=>by
  obtain ⟨hd,h⟩:=h
  obtain ⟨v,m,⟨hn1,hn2,h⟩,fr,g1,g2,g3⟩:=Dk (P:=P) (b:=b) (N:=N) hd hfx (by rw [mP,hn]) h
  have e:eY (bZ 0 mods0 (fun _=>true) H0) m=bZ 0 (mods0++[m]) (fun _=>true) H0:=by rw [uf];rfl
  rw [e] at h
  obtain ⟨ms,h1,h2,h3⟩:=Uj hfx hn l (k+1) _ (mods0++[m]) (by simp [hk]) h
  have e2:mods0++[m]++ms=mods0++m::ms:=by simp
  rw [e2] at h3
  refine ⟨m::ms,by simp [h1],fun q m' hq p hp =>?_,v,⟨m,fr,by rw [List.getElem?_append_right (by omega),hk,Nat.sub_self];rfl,g1,g2,hn1,fun p hp=>List.all_eq_true.1 hn2 p hp,?_⟩,h3⟩
  ·cases q with
   | zero =>
    simp only [List.getElem?_cons_zero,Option.some.injEq] at hq
    subst hq
    exact (g1 p hp).2.2
   | succ q =>
    have:=h2 q m' (by simpa using hq) p hp
    rwa [show k+1+q=k+(q+1) by omega] at this
  ·have e3:(mods0++m::ms).take k=mods0:=by rw [← hk,List.take_left]
   rw [e3]
   exact g3
def fH:Nat->List Ob
 | 0=>[]
 | n+1 => .gone::fH n
theorem zD:∀ n,(fH n).length=n
 | 0=>rfl
 | n+1=>by simp [fH,zD n]
theorem zF:∀ {n:Nat} {o:Ob},o∈fH n->o = .gone
 | 0,_,h=>by simp [fH] at h
 | n+1,o,h=>by
  rcases List.mem_cons.1 h with h | h
  ·exact h
  ·exact zF h
theorem RA.reserve {φ:Nat->Value} {M:Mem} {a:Act} {w:World}:∀ (R:Nat) {H:List Ob} {φ:Nat->Value} {β:Nat->Nat->Prop},RA P cf b N φ β M ⟨T,H⟩ a w->∃ φ' β',RA P cf b N φ' β' M ⟨T,H++fH R⟩ a w
 | 0,H,φ,β,h=>⟨φ,β,by rw [fH,List.append_nil];exact h⟩
 | R+1,H,φ,β,h=>by
  have h1:=h.grow (Below.refl _ _) (o := .gone) (v:=undef) (fun _=>False) (fun _ h=>h.elim) trivial trivial
  obtain ⟨φ',β',h2⟩:=RA.reserve (φ:=φ) R h1
  refine ⟨φ',β',?_⟩
  rwa [List.append_assoc] at h2
end
theorem gq {P:Program} {cf:Cfg} {b:Base} {N id:Nat} {l:List Oper} {Y:St} {Q:Exit->St->Prop} (R:Nat) (S:List (Nat×List Nat)) (D:List Nat) (W:List (Nat×List Nat))
  (h:dG P cf N l.toArray S D W Y.H.length (Y.H.length+R) (fun T H=>Q .normal ⟨T,H⟩) 0 l Y.T (Y.H++fH R)) (hm:P.follows .mixedOrders=true:=by kernel_rfl) (hB:Region.lexB .any l.toArray=true:=by kernel_rfl) (hc:Pm l.toArray S D W=true:=by kernel_rfl) (hb:Ci 0 l=true:=by kernel_rfl):awp P cf b N (.region id l.toArray true) Q Y:=fun a w ⟨φ,β,M,hR⟩=>by
 simp only [Region.lexB,Bool.and_eq_true] at hB
 obtain ⟨φ',β',hR'⟩:=RA.reserve (φ:=φ) R hR
 have hn:(Y.H++fH R).length=Y.H.length+R:=by rw [List.length_append,zD]
 obtain ⟨ms,h1,h2,h3⟩:=Uj (b:=b) hR.fix.1 hn l 0 Y.T [] rfl h
 simp only [List.nil_append,Nat.zero_add] at h2 h3
 have hrep:∀ j:Nat,(Array.replicate l.toArray.size false).getD j false=false:=fun j=>by
  rw [Array.getD_eq_getD_getElem?]
  rcases Nat.lt_or_ge j l.toArray.size with h' | h'
  ·simp at h'
   simp [h']
  ·simp at h'
   simp [h']
 have hH0:bZ 0 ms (fun j=>(Array.replicate l.toArray.size false).getD j false) (Y.H++fH R)=Y.H++fH R:=qC ms 0 _ _ fun q _=>hrep _
 refine wp_region_any hm ?_
 refine EU (P:=P) (cf:=cf) (b:=b) (N:=N) (S:=S) (D:=D) (X:=W) (n0:=Y.H.length) (n:=Y.H.length+R) (H0:=Y.H++fH R) (mods:=ms) (Qf:=fun T=>Q .normal ⟨T,bZ 0 ms (fun _=>true) (Y.H++fH R)⟩) (by simpa using h1) hn hc (by simpa using hb) h2 (fun φ β M T a w hR hQ=>⟨_,hQ,φ,β,M,hR⟩) _ _ φ' β' M Y.T a _ (by simp) (fun i o _ hi=>by rw [hrep i] at hi;cases hi) (by rw [hH0];exact hR'.draw) (fun s hs _ =>?_) ?_
 ·rw [hH0]
  refine ⟨fun t=>Qc hs (hR.lt t),fun i o hi =>?_⟩
  rcases Nat.lt_or_ge i Y.H.length with h' | h'
  ·rw [List.getElem?_append_left h'] at hi
   exact Qk hs (hR.hi.wf i o hi)
  ·rw [List.getElem?_append_right h'] at hi
   have:=zF (List.mem_of_getElem? hi)
   subst this
   intro y hy
   simp [nJ] at hy
 ·have:=pG (ops:=l.toArray) (ok:=okG P cf b N l.toArray S D W Y.H.length (Y.H.length+R) (Y.H++fH R) ms) Lc (Q:=fun listed T=>(∀ j,j<l.toArray.size->listed.getD j false=true)/\Q .normal ⟨T,bZ 0 ms (fun _=>true) (Y.H++fH R)⟩) (Q0:=fun T=>Q .normal ⟨T,bZ 0 ms (fun _=>true) (Y.H++fH R)⟩) (fun listed T h5 h6=>⟨h5,h6⟩) l 0 (Array.replicate l.toArray.size false) Y.T (by simp) (by simp) (fun j hj=>by omega) (by simpa using hB.2) h3
  simpa using this
theorem kH {P:Program} {cf:Cfg} {b:Base} {N:Nat} {X:St} {Q:Exit->St->Prop} {c:Code} (i j:Nat) {e e2:Nat} {es:List Nat} {d:Cn} (hi:X.H[i]? = some (.tree (e::e2::es) d)) (hj:j<d.len) (h:awp P cf b N c Q ⟨X.T,(X.H.set i (.hole e (e2::es) d j (.own X.H.length)))++[Fh (e2::es) (d.sub j)]⟩):awp P cf b N c Q X:=fun a w ⟨φ,β,M,hR⟩=>by
 obtain ⟨_,_,_,_,_,_,_,_,hR'⟩:=RA.focus hR hi hj
 exact h a w ⟨_,_,_,hR'⟩
theorem dh {P:Program} {n i:Nat} {T:Tm} {H:List Ob} {c:Call} {f:Nat} {xs:List Lf} {args:List AV} {p p':Ob} {r:AV} (h:bP P f args [true] [p] r [p']) (h1:bQ T c=some (true,f,xs)) (h2:(c.args.toList.all fun x=>(look T x).1)=true) (h3:(c.args.toList.map fun x=>(look T x).2)++xs.map (fun y=>AV.lf y)=args.map (AV.map (Lf.ren (cu [i] n)))) (h4:H[i]? = some p) (h5:(nJ p).all Lf.isB=true) (h6:(nJ p').all Lf.isB=true) (h7:r.leaves.all Lf.isB=true):Di P n T H c i p' r :=
 ⟨f,xs,args,p,h1,h2,h3,h4,h5,h6,h7,h⟩
theorem VE (s n e:Nat) (c:Cn):(Ob.row e c).map (Lf.mv s n) = .row e c:=rfl
end Am
end Go.Proofs.YtnblieajjclipaaGreat
