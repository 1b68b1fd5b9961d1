/- Literals of slices as operations; all operations of a region in their order; a function's body. Conditions: those that each names. -/
import Derived.Test.YtnblieajjclipaaGreatMB
set_option linter.all false
namespace Go.Proofs.YtnblieajjclipaaGreat
namespace Am
open Go Go.RowKit
section
variable {P:Program} {cf:Cfg} {b:Base} {N:Nat} {φ:Nat->Value} {β:Nat->Nat->Prop} {M:Mem} {T:Tm} {H:List Ob} {a:Act} {w w':World}
variable {ops:Array Oper} {o:Oper} {Q:Exit->Act->World->Prop} {rest:List Oper}
theorem Eu (hcf:jP P cf) {e:Nat} (hz:cf.sz e≠0):(sizeOf e).run P w = .ok (cf.sz e) w:=by
 obtain ⟨inf,hinf,hsz,-⟩:=hcf.info e hz
 unfold sizeOf
 simp [run_typeInfo _ hinf,hsz]
theorem Ph (h:RA P cf b N φ β M ⟨T,H⟩ a w) (hd:o.dst.all (Nat.blt · N)=true) {t e:Nat} (ho:o.op = .buildSlice t 0 #[]) (ht:cf.ty t = .slice e) (hz:cf.sz e≠0) {c:Cn} (hc:emp cf e=some c)
  {K:Act->World->Prop} (hK:∀ φ' β' a' w',RA P cf b N φ' β' M ⟨T.put o.dst (true,.lf (.own H.length)),H++[.row e c]⟩ a' w'->K a' w'):o.wp P a w K Q:=by
 have hty:=h.cf.ty t
 rw [ht] at hty
 obtain ⟨hc0,hok⟩:=PG hc
 have hrun:(execOp a.eval o).run P w = .ok (.value (.slice (some ⟨w.heap.size,0,none⟩) 0 0)) (w.alloc (.cells #[] e)):=by
  simp [execOp,ho,Instr.buildSlice,run_underlying (show P.underlying t=_ from hty),Eu h.cf hz,Instr.fill,newRow]
  rw [Array.range_zero',Array.map_empty]
 unfold Oper.wp
 rw [hrun]
 have hR:=h.grow (iT w (.cells #[] e)) (v := .slice (some ⟨w.heap.size,0,none⟩) 0 0) (o := .row e c) (fun g=>g=w.heap.size) (fun g hg'=>by rw [size_alloc];omega)
  ⟨[],⟨by rw [hc0];simp,.inr ⟨w.heap.size,0,#[],by rw [hc0],Nat.zero_le _,heap_alloc_new w _,by omega,by simp [maxLen],by simp,by simp⟩⟩,⟨hok,by rw [hc0,Nat.zero_mul];rfl,fun j o hj=>by omega⟩,fun g hg'=>by simp [blk] at hg';omega⟩ trivial
 exact hK _ _ _ _ (hR.put (d:=o.dst) hd (Mem.le_refl _) hR.new hR.hi hR.below ⟨fun _=>(upd_same _ _ _).symm,fun hf=>by cases hf⟩ (AV.dL.2 (by simp [Lf.ltB])))
theorem I5 (hcf:jP P cf) {t n e:Nat} {parts:Array (Nat×Operand)} (ho:o.op = .buildSlice t n parts) (ht:cf.ty t = .slice e) (hz:cf.sz e≠0) (hn0:0<n) (hn:n*cf.sz e<=16777216) (hidx:parts.toList.map (·.1)=List.range n) (hcs:∀ p∈parts.toList,(a.eval p.2).cells.toList.length=cf.sz e) :
  ∃ r:Array Value,(execOp a.eval o).run P w = .ok (.value (.slice (some ⟨w.heap.size,0,none⟩) n n)) (w.alloc (.cells r e))/\r.toList=(parts.toList.map fun p=>a.eval p.2).flatMap (fun u=>u.cells.toList)/\r.toList.length=n*cf.sz e:=by
 have hty:=hcf.ty t
 rw [ht] at hty
 have hpl:parts.toList.length=n:=by have:=congrArg List.length hidx;simpa using this
 let us:List Value:=parts.toList.map fun p=>a.eval p.2
 have husn:us.length=n:=by simp [us];simpa using hpl
 have hcu:∀ u∈us,u.cells.toList.length=cf.sz e:=fun u hu=>by
  obtain ⟨p,hp,rfl⟩:=List.mem_map.1 hu
  exact hcs p hp
 have hflat:∀ (l:List Value),(∀ u∈l,u.cells.toList.length=cf.sz e)->(l.flatMap fun u=>u.cells.toList).length=l.length*cf.sz e:=fun l hl=>by
  induction l with
  | nil=>simp
  | cons u l ih =>
   rw [List.flatMap_cons,List.length_append,ih fun v hv=>hl v (by simp [hv]),hl u (by simp),List.length_cons,Nat.add_mul,Nat.one_mul,Nat.add_comm]
 let ps:List (Nat×Value):=parts.toList.map fun p=>(p.1,a.eval p.2)
 have hps:(ps.flatMap fun q=>q.2.cells.toList)=us.flatMap fun u=>u.cells.toList:=by simp [ps,us,List.flatMap_map]
 have hpsl:ps.length=n:=by simp [ps];simpa using hpl
 obtain ⟨inf,hinf,hsz',-,z,hz1,-,hz3⟩:=hcf.info e hz
 have hzv:(zeroValue e).run P w = .ok z w:=by
  unfold zeroValue
  simp [run_typeInfo _ hinf,hz1]
 obtain ⟨r,f1,f2⟩:=JW (place:=fun i=>some (i*cf.sz e,cf.sz e)) ps 0 ((Array.range (n*cf.sz e)).map (z.cells[· % z.cells.size]!)) (fun j p hj=>by
  obtain ⟨hj1,hj2⟩:=List.getElem?_eq_some_iff.1 hj
  have hj3:j<parts.toList.length:=by omega
  have e1:p.1=j:=by
   have h1:(parts.toList.map (·.1))[j]? = some p.1:=by
    rw [List.getElem?_map,List.getElem?_eq_getElem hj3]
    rw [← hj2]
    simp [ps]
   rw [hidx,List.getElem?_range (by omega)] at h1
   cases h1
   rfl
  have e2:p.2.cells.size=cf.sz e:=by
   have:=hcs parts.toList[j] (List.getElem_mem hj3)
   rw [← hj2]
   simpa [ps] using this
  have e3:((ps.take j).flatMap fun q=>q.2.cells.toList).length=j*cf.sz e:=by
   have:((ps.take j).flatMap fun q=>q.2.cells.toList)=(us.take j).flatMap fun u=>u.cells.toList:=by simp only [ps,us,← List.map_take,List.flatMap_map]
   rw [this,hflat _ fun u hu=>hcu u (List.mem_of_mem_take hu),List.length_take]
   congr 1
   omega
  rw [e1,e2,e3,Nat.zero_add]) (by rw [hps,hflat us hcu,husn];simp)
 rw [hps,Ox _ _ (by rw [hflat us hcu,husn];simp)] at f2
 refine ⟨r,?_,f2,by rw [f2,hflat us hcu,husn]⟩
 have g1:¬ n*cf.sz e > 2 ^ 24:=by omega
 have g2:n*cf.sz e≠0:=Nat.mul_ne_zero (by omega) hz
 have g3:(parts.map fun (p:Nat×Operand)=>(p.1,a.eval p.2)).toList=ps:=by simp [ps]
 have f1':Instr.fill (fun i=>some (i*cf.sz e,cf.sz e)) ((Array.range (n*cf.sz e)).map (z.cells[· % z.cells.size]!)) (parts.map fun (p:Nat×Operand)=>(p.1,a.eval p.2)).toList=some r:=by rw [g3];exact f1
 simp only [execOp,ho,Instr.buildSlice,run_underlying (show P.underlying t=_ from hty),Eu hcf hz,Sem.run_bind,Result.andThen_ok,g1,g2,if_false,hzv,Sem.run_pure,f1',newRow]
 simp
theorem Ue (h:RA P cf b N φ β M ⟨T,H⟩ a w) (hd:o.dst.all (Nat.blt · N)=true) {t n e:Nat} {parts:Array (Nat×Operand)} (ho:o.op = .buildSlice t n parts) (ht:cf.ty t = .slice e) (hz:cf.sz e≠0) (hn0:0<n) (hn:n*cf.sz e<=16777216)
  (hidx:parts.toList.map (·.1)=List.range n) {vs:List TV} (hvs:parts.toList.mapM (fun p=>match look T p.2 with | (true,.tv v)=>some v | _=>none)=some vs) (hsz:∀ v∈vs,v.cs.length=cf.sz e/\v.cs.all (Lf.dU H)=true) {c:Cn} (hc:sF vs=some c) (hw:c.w=cf.sz e)
  {K:Act->World->Prop} (hK:∀ M' a' w',RA P cf b N φ β M' ⟨T.put o.dst (true,.sl c),H⟩ a' w'->K a' w'):o.wp P a w K Q:=by
 obtain ⟨m1,m2⟩:=mapM_some hvs
 have hpl:parts.toList.length=n:=by have:=congrArg List.length hidx;simpa using this
 have hval:∀ j (hj:j<vs.length) (hj':j<parts.toList.length),gQ φ M vs[j].cs (a.eval parts.toList[j].2).cells.toList:=fun j hj hj'=>by
  have h1:=m2 j hj' hj
  split at h1
  ·rename_i v hv
   cases h1
   have hr:=h.ctx.t parts.toList[j].2 (by rw [hv])
   rw [hv] at hr
   exact yZ hr fun x e=>by
    have h2:=(hsz _ (List.getElem_mem hj)).2
    rw [e] at h2 hr
    exact nK h.hi (by simpa [TV.cs] using h2) hr
  ·cases h1
 let us:List Value:=parts.toList.map fun p=>a.eval p.2
 have husl:us.length=vs.length:=by simp [us,m1]
 have hcs:∀ u∈us,u.cells.toList.length=cf.sz e:=fun u hu=>by
  obtain ⟨j,hj,rfl⟩:=List.getElem_of_mem hu
  have hj1:j<vs.length:=by omega
  have hj2:j<parts.toList.length:=by omega
  have:=(hval j hj1 hj2).1
  rw [(hsz _ (List.getElem_mem hj1)).1] at this
  simpa [us] using this
 obtain ⟨r1,r2⟩:=DJ (φ:=φ) (M:=M) (us:=us) hc husl fun j hj hj'=>by
  have:=hval j hj (by omega)
  simpa [us] using this
 have husn:us.length=n:=by simp [us];simpa using hpl
 obtain ⟨r,hrun,f2,f3⟩:=I5 (a:=a) (w:=w) h.cf ho ht hz hn0 hn hidx fun p hp=>hcs _ (List.mem_map.2 ⟨p,hp,rfl⟩)
 unfold Oper.wp
 rw [hrun]
 obtain ⟨hm,hR⟩:=h.ext (iT w (.cells r e))
 have hsl:(B.sl c).rel (M.ext w (w.alloc (.cells r e))) (.slice (some ⟨w.heap.size,0,none⟩) n n):=by
  refine B.jB.2 ⟨_,⟨some ⟨w.heap.size,0,none⟩,n,by rw [r2,← husl,husn],by rw [r2,← husl,husn];exact Nat.le_refl _,?_,fun _=>⟨_,rfl,fun j hj =>?_⟩⟩,Cn.aX hm r1⟩
  ·have:n*1<=n*cf.sz e:=Nat.mul_le_mul_left _ (by omega)
   omega
  ·rw [fG,Nat.zero_add]
   show (if w.heap.size<w.heap.size then _ else _)=_
   rw [if_neg (Nat.lt_irrefl _),pF (heap_alloc_new w _),f2,List.getElem?_eq_getElem hj]
 exact hK _ _ _ (hR.put (d:=o.dst) hd (Mem.le_refl _) hR.new hR.hi hR.below ⟨fun _=>hsl,fun hf=>by cases hf⟩ (AV.dL.2 rfl))
theorem Pg (h:RA P cf b N φ β M ⟨T,H⟩ a w) (hd:o.dst.all (Nat.blt · N)=true) {t e:Nat} {x y:Operand} (ho:o.op = .call { callee := .builtin .append,args:=#[x,y],argTypes:=#[t,t] }) (ht:cf.ty t = .slice e) (hz:cf.sz e≠0) {i:Nat} {c c2 c':Cn}
  (hx:look T x=(true,.lf (.own i))) (hi:H[i]? = some (.row e c)) {v:AV} (hy:look T y=(true,v)) (hc:content H v=some c2) (hw:c.w=cf.sz e) (h0:0<c2.len) (hap:c.app c2=some c') (hn:c.len+c2.len<=1073741824) (hby:cf.bytes e<=4096)
  {K:Act->World->Prop} (hK:∀ φ' β' a' w',RA P cf b N φ' β' M ⟨T.put o.dst (true,.lf (.own H.length)),(H.set i .gone)++[.row e c']⟩ a' w'->K a' w'):o.wp P a w K Q:=by
 obtain ⟨inf,hinf,hsz,hbt,z,hz1,hz2,hz3⟩:=h.cf.info e hz
 have hty:=h.cf.ty t
 rw [ht] at hty
 have hrx:a.eval x=φ i:=by have:=h.ctx.t x (by rw [hx]);rw [hx] at this;exact this
 have hry:=h.ctx.t y (by rw [hy])
 rw [hy] at hry
 have hil:=(List.getElem?_eq_some_iff.1 hi).1
 obtain ⟨vs,k1,k2,hS⟩:=h.hi.ob i _ hi
 obtain ⟨e1,e2,e3,-,-⟩:=jk hap
 obtain ⟨ad,cap,vs2,q1,q2,q3⟩:=nX h.hi hry hc h0 (by rw [e3,hw];omega)
 have hzl:z.cells.size=c.w:=by rw [hz3,hw]
 obtain ⟨v',w',hr,r1,r2,-,r4⟩:=run_append_own_at (P:=P) w 0 t o.type e inf z c.w (cf.bytes e) hty hinf hz1 (by rw [hsz,hw]) hbt hzl (by rw [hw];omega) (φ i) c.len vs k1 ad c2.len cap vs2 (by rw [q2.2.1,e3]) q3 (fun u hu=>by have:=uy q2 u hu;cases u<;>first | rfl | exact this) (by simp only [maxLen];omega) (by
  have:(c.len+c2.len)*cf.bytes e<=1073741824*4096:=Nat.mul_le_mul hn hby
  omega) (Nat.zero_le _)
 unfold Oper.wp execOp
 simp only [ho,resolve,invoke,builtin,Sem.run_bind,Sem.run_pure,Result.andThen_ok,List.map_toArray,List.map_cons,List.map_nil,hrx,q1,hr]
 have hb1:=jc k1
 have hb2:=jc r1
 have hlen:((H.set i .gone)++[Ob.row e c']).length=H.length+1:=by simp
 have hone:∀ k,k<H.length+1->H.length<=k\/k=i->k=i\/k=H.length:=fun k hk hc=>by rcases hc with hc | hc<;>omega
 have hφ:∀ k,k<H.length->upd φ H.length v' k=φ k:=fun k hk=>upd_ne φ v' (by omega)
 have hbi:∀ g,dI (dI β i fun _=>False) H.length (fun g=>blk v'=some g) i g->False:=fun g hg=>by rw [bG _ _ (by omega),aS] at hg;exact hg
 have hbn:∀ g,dI (dI β i fun _=>False) H.length (fun g=>blk v'=some g) H.length g->blk v'=some g:=fun g hg=>by rw [aS] at hg;exact hg
 have hR:=h.change (w':=w') id (fun k=>k=i) (φ':=upd φ H.length v') (β':=dI (dI β i fun _=>False) H.length fun g=>blk v'=some g) (H':=(H.set i .gone)++[.row e c'])
  ⟨r2.os,r2.tape,r2.output,r2.size,fun k hk hn'=>r2.block k hk fun e=>hn' ⟨i,hil,rfl,hS k (by rw [← hb1];exact e.symm)⟩⟩ (by rw [hlen];omega)
  (fun y hy u hu=>Lf.jK hy hφ hu) (fun y hy=>iF (by rw [hlen];omega) hy)
  (fun k p hk hne=>by
   have hlt:=(List.getElem?_eq_some_iff.1 hk).1
   refine ⟨?_,hφ k hlt,by rw [bG _ _ (by omega),bG _ _ hne]⟩
   rw [List.getElem?_append_left (by simpa using hlt),List.getElem?_set,if_neg (fun e=>hne e.symm),Ob.map_id]
   exact hk)
  (fun k p hk hc=>by
   rcases hone k (by rw [← hlen];exact (List.getElem?_eq_some_iff.1 hk).1) hc with rfl | rfl
   ·rw [List.getElem?_append_left (by simpa using hil),List.getElem?_set,if_pos rfl,if_pos hil] at hk
    cases hk
    exact ⟨trivial,trivial⟩
   ·rw [List.getElem?_append_right (by simp)] at hk
    simp at hk
    subst hk
    rw [aS,upd_same]
    exact ⟨⟨vs++vs2,by rw [e2,e1];exact r1,nU hap k2 q2,fun _ h=>h⟩,trivial⟩)
  (fun k g hk hc hg=>by
   rcases hone k (by rw [← hlen];exact hk) hc with rfl | rfl
   ·exact (hbi g hg).elim
   ·have hg:=hbn g hg
    rw [← hb2] at hg
    refine ⟨(r1.lt g hg).2,?_⟩
    rcases r4 with r4 | r4
    ·exact .inr ⟨i,hil,rfl,hS g (by rw [← hb1,← r4];exact hg)⟩
    ·rw [r4] at hg;cases hg;exact .inl (Nat.le_refl _))
  (fun k l g hk hl hc hc' hg hg'=>by
   rcases hone k (by rw [← hlen];exact hk) hc with rfl | rfl<;>rcases hone l (by rw [← hlen];exact hl) hc' with rfl | rfl
   ·rfl
   ·exact (hbi g hg).elim
   ·exact (hbi g hg').elim
   ·rfl)
  (fun k hk=>hφ k (Au h hk))
 rw [Tm.map_id] at hR
 exact hK _ _ _ _ (hR.put (d:=o.dst) hd (Mem.le_refl _) hR.new hR.hi hR.below ⟨fun _=>(upd_same _ _ _).symm,fun hf=>by cases hf⟩ (AV.dL.2 (by simp [Lf.ltB])))
def Lf.mv (i n:Nat):Lf->Lf
 | .own j=>bif Nat.beq j n then .own i else bif Nat.beq j i then .und else .own j
 | .ptr j o=>bif Nat.beq j n then .ptr i o else bif Nat.beq j i then .und else .ptr j o
 | .oa j w k o=>bif Nat.beq j n then .oa i w k o else bif Nat.beq j i then .und else .oa j w k o
 | x=>x
theorem RA.mv (h:RA P cf b N φ β M ⟨T,H⟩ a w) {i n:Nat} {p:Ob} (hi:H[i]? = some .gone) (hn:H[n]? = some p) (hne:i≠n) (hfi:b.fx.getD i false=false) (hfn:b.fx.getD n false=false) :
  ∃ φ' β',RA P cf b N φ' β' M ⟨T.map (Lf.mv i n),((H.map (Ob.map (Lf.mv i n))).set i (p.map (Lf.mv i n))).set n .gone⟩ a w:=by
 have hil:=(List.getElem?_eq_some_iff.1 hi).1
 have hnl:=(List.getElem?_eq_some_iff.1 hn).1
 have hlen:(((H.map (Ob.map (Lf.mv i n))).set i (p.map (Lf.mv i n))).set n .gone).length=H.length:=by simp
 have hone:∀ j,j<H.length->H.length<=j\/(j=i\/j=n)->j=i\/j=n:=fun j hj hc=>by rcases hc with hc | hc;omega;exact hc
 let φ':=upd φ i (φ n)
 have hφi:φ' i=φ n:=upd_same _ _ _
 have hφo:∀ j,j≠i->φ' j=φ j:=fun j hj=>upd_ne _ _ hj
 have hf:∀ y:Lf,y.ltB H.length=true->∀ u,y.rel φ M u->(y.mv i n).rel φ' M u:=fun y _ u hu=>by
  cases y with
  | own j =>
   simp only [Lf.mv]
   cases e:Nat.beq j n with
   | true=>rw [Nat.eq_of_beq_eq_true e] at hu;exact (show u=φ n from hu).trans hφi.symm
   | false =>
    cases e2:Nat.beq j i with
    | true=>trivial
    | false=>exact (show u=φ j from hu).trans (hφo j fun e3=>by rw [e3,Nat.beq_refl] at e2;cases e2).symm
  | ptr j o =>
   simp only [Lf.mv]
   cases e:Nat.beq j n with
   | true=>rw [Nat.eq_of_beq_eq_true e] at hu;obtain ⟨g,h1,h2⟩:=hu;exact ⟨g,hφi.trans h1,h2⟩
   | false =>
    cases e2:Nat.beq j i with
    | true=>trivial
    | false=>obtain ⟨g,h1,h2⟩:=hu;exact ⟨g,(hφo j fun e3=>by rw [e3,Nat.beq_refl] at e2;cases e2).trans h1,h2⟩
  | oa j w k o =>
   simp only [Lf.mv]
   cases e:Nat.beq j n with
   | true=>rw [Nat.eq_of_beq_eq_true e] at hu;obtain ⟨g,m,c,h1,h2⟩:=hu;exact ⟨g,m,c,hφi.trans h1,h2⟩
   | false =>
    cases e2:Nat.beq j i with
    | true=>trivial
    | false=>obtain ⟨g,m,c,h1,h2⟩:=hu;exact ⟨g,m,c,(hφo j fun e3=>by rw [e3,Nat.beq_refl] at e2;cases e2).trans h1,h2⟩
  | _=>exact hu
 have hfl:∀ y:Lf,y.ltB H.length=true->(y.mv i n).ltB H.length=true:=fun y hy=>by
  cases y with
  | own j=>simp only [Lf.mv];cases Nat.beq j n<;>cases Nat.beq j i<;>first | exact hy | rfl | (simp [Lf.ltB];exact hil)
  | ptr j o=>simp only [Lf.mv];cases Nat.beq j n<;>cases Nat.beq j i<;>first | exact hy | rfl | (simp [Lf.ltB];exact hil)
  | oa j w k o=>simp only [Lf.mv];cases Nat.beq j n<;>cases Nat.beq j i<;>first | exact hy | rfl | (simp [Lf.ltB];exact hil)
  | _=>rfl
 have hbi:∀ g,dI (dI β i (β n)) n (fun _=>False) i g->β n g:=fun g hg=>by rw [bG _ _ hne,aS] at hg;exact hg
 have hbn:∀ g,dI (dI β i (β n)) n (fun _=>False) n g->False:=fun g hg=>by rw [aS] at hg;exact hg
 refine ⟨φ',dI (dI β i (β n)) n fun _=>False,h.change (w':=w) (Lf.mv i n) (fun j=>j=i\/j=n) (H':=((H.map (Ob.map (Lf.mv i n))).set i (p.map (Lf.mv i n))).set n .gone) (Kept.refl _ _) (by simp)
  hf (fun y hy=>by rw [hlen];exact hfl y hy)
  (fun j q hj hne'=>by
   refine ⟨?_,hφo j fun e=>hne' (.inl e),by rw [bG _ _ fun e=>hne' (.inr e),bG _ _ fun e=>hne' (.inl e)]⟩
   rw [List.getElem?_set,if_neg (fun e=>hne' (.inr e.symm)),List.getElem?_set,if_neg (fun e=>hne' (.inl e.symm)),List.getElem?_map,hj]
   rfl)
  (fun j q hj hc=>by
   rcases hone j (by rw [← hlen];exact (List.getElem?_eq_some_iff.1 hj).1) hc with rfl | rfl
   ·rw [List.getElem?_set,if_neg (fun e=>hne e.symm),List.getElem?_set,if_pos rfl,if_pos (by simpa using hil)] at hj
    cases hj
    rw [bG _ _ hne,aS,hφi,hlen]
    exact ⟨Ob.og (h.hi.wf n p hn) (Mem.le_refl _) (h.hi.ob n p hn) hf,Ob.map_lt (h.hi.wf n p hn) hfl⟩
   ·rw [List.getElem?_set,if_pos rfl,if_pos (by simpa using hnl)] at hj
    cases hj
    exact ⟨trivial,trivial⟩)
  (fun j g hj hc hg=>by
   rcases hone j (by rw [← hlen];exact hj) hc with rfl | rfl
   ·have:=hbi g hg
    exact ⟨h.hi.lt n g hnl this,.inr ⟨n,hnl,.inr rfl,this⟩⟩
   ·exact (hbn g hg).elim)
  (fun j k g hj hk hc hc' hg hg'=>by
   rcases hone j (by rw [← hlen];exact hj) hc with rfl | rfl<;>rcases hone k (by rw [← hlen];exact hk) hc' with rfl | rfl
   ·rfl
   ·exact (hbn g hg').elim
   ·exact (hbn g hg).elim
   ·rfl)
  (fun j hj=>hφo j fun e=>by rw [e,hfi] at hj;cases hj)⟩
theorem XG (h:RA P cf b N φ β M ⟨T,H⟩ a w) (hd:o.dst.all (Nat.blt · N)=true) {t e:Nat} {y:Operand} (ho:o.op = .buildSlice t 1 #[(0,y)]) (ht:cf.ty t = .slice e) (hz:cf.sz e=1) {m:Nat} {om:Ob} {es:List Nat} {c d:Cn} (hy:look T y=(true,.lf (.own m))) (hom:H[m]? = some om) (hm:om.oO=some (es,d)) (hw:d.wrap=some c)
  {K:Act->World->Prop} (hK:∀ φ' β' a' w',RA P cf b N φ' β' M ⟨(T.map (Lf.kill m)).put o.dst (true,.lf (.own H.length)),((H.map (Ob.map (Lf.kill m))).set m .gone)++[.tree (e::es) c]⟩ a' w'->K a' w'):o.wp P a w K Q:=by
 have hry:a.eval y=φ m:=by have:=h.ctx.t y (by rw [hy]);rw [hy] at this;exact this
 have hml:=(List.getElem?_eq_some_iff.1 hom).1
 have hT:=D6 hm (h.hi.ob m om hom)
 obtain ⟨eo,vo,q1,q2⟩:=hT.outer
 have hlitm:kZ (φ m)=true:=by rcases q1.2 with ⟨q3,_⟩ | ⟨g',cap',cur,q3,_⟩<;>rw [q3]<;>rfl
 have hcells:(a.eval y).cells=#[φ m]:=by rw [hry];exact cells_one hlitm
 obtain ⟨r,hrun,f2,f3⟩:=I5 (a:=a) (w:=w) h.cf ho ht (by omega) (by omega) (by omega) rfl (fun p hp=>by simp at hp;subst hp;rw [hcells,hz];rfl)
 have hr:r=#[φ m]:=Array.toList_inj.1 (by rw [f2];simp [hcells])
 subst hr
 obtain ⟨w1,w2,w3⟩:=Tc hw
 unfold Oper.wp
 rw [hrun]
 have hlen:(((H.map (Ob.map (Lf.kill m))).set m .gone)++[Ob.tree (e::es) c]).length=H.length+1:=by simp
 have hone:∀ k,k<H.length+1->H.length<=k\/k=m->k=m\/k=H.length:=fun k hk hc=>by rcases hc with hc | hc<;>omega
 let v:Value := .slice (some ⟨w.heap.size,0,none⟩) 1 1
 let S:Nat->Prop:=fun g=>g=w.heap.size\/β m g
 have hφ:∀ k,k<H.length->upd φ H.length v k=φ k:=fun k hk=>upd_ne φ v (by omega)
 have hbm:∀ g,dI (dI β m fun _=>False) H.length S m g->False:=fun g hg=>by rw [bG _ _ (by omega),aS] at hg;exact hg
 have hbn:∀ g,dI (dI β m fun _=>False) H.length S H.length g->S g:=fun g hg=>by rw [aS] at hg;exact hg
 have hbl:=iT w (.cells #[φ m] e)
 have hT':gX (w.alloc (.cells #[φ m] e)) es d (φ m) (β m):=hT.keep fun g hg=>hbl.block g (h.hi.lt m g hml hg)
 have hne:es≠[]:=fun e=>by rw [e] at hT;exact hT.elim
 have hNew:gX (w.alloc (.cells #[φ m] e)) (e::es) c v S:=by
  match es,hne,hT' with
  | e2::es,_,hT' =>
   refine ⟨w2,[φ m],fun j g=>j=0/\β m g,⟨by rw [w1];rfl,.inr ⟨w.heap.size,1,#[φ m],by rw [w1],Nat.zero_le _,heap_alloc_new w _,by rw [w1];exact Nat.le_refl _,by simp [maxLen],by simp,by rw [w1];simp⟩⟩,fun g hg =>?_,fun j g hg => .inr hg.2,fun j k g hg hg'=>by rw [hg.1,hg'.1],fun j u hj hu =>?_⟩
   ·simp only [v,blk,Option.some.injEq] at hg
    exact ⟨.inl hg.symm,fun j hj=>by have:=h.hi.lt m g hml hj.2;omega⟩
   ·rw [w1] at hj
    obtain rfl:j=0:=by omega
    simp at hu
    subst hu
    rw [w3]
    exact hT'.mono fun g hg=>⟨rfl,hg⟩
 have hR:=h.change (w':=w.alloc (.cells #[φ m] e)) (Lf.kill m) (fun k=>k=m) (φ':=upd φ H.length v) (β':=dI (dI β m fun _=>False) H.length S) (H':=((H.map (Ob.map (Lf.kill m))).set m .gone)++[.tree (e::es) c])
  ⟨hbl.os,hbl.tape,hbl.output,hbl.size,fun k hk _=>hbl.block k hk⟩ (by rw [hlen];omega)
  (fun y hy u hu=>Lf.jK (uw hy) hφ (Dx hu)) (fun y hy=>iF (by rw [hlen];omega) (uw hy))
  (fun k p hk hne=>by
   have hlt:=(List.getElem?_eq_some_iff.1 hk).1
   refine ⟨?_,hφ k hlt,by rw [bG _ _ (by omega),bG _ _ hne]⟩
   rw [List.getElem?_append_left (by simpa using hlt),List.getElem?_set,if_neg (fun e=>hne e.symm),List.getElem?_map,hk]
   rfl)
  (fun k p hk hc=>by
   rcases hone k (by rw [← hlen];exact (List.getElem?_eq_some_iff.1 hk).1) hc with rfl | rfl
   ·rw [List.getElem?_append_left (by simpa using hml),List.getElem?_set,if_pos rfl,if_pos (by simpa using hml)] at hk
    cases hk
    exact ⟨trivial,trivial⟩
   ·rw [List.getElem?_append_right (by simp)] at hk
    simp at hk
    subst hk
    rw [aS,upd_same]
    exact ⟨hNew,trivial⟩)
  (fun k g hk hc hg=>by
   rcases hone k (by rw [← hlen];exact hk) hc with rfl | rfl
   ·exact (hbm g hg).elim
   ·rw [size_alloc]
    rcases hbn g hg with h1 | h1
    ·exact ⟨by omega,.inl (by omega)⟩
    ·have:=h.hi.lt m g hml h1
     exact ⟨by omega,.inr ⟨m,hml,rfl,h1⟩⟩)
  (fun k l g hk hl hc hc' hg hg'=>by
   rcases hone k (by rw [← hlen];exact hk) hc with rfl | rfl<;>rcases hone l (by rw [← hlen];exact hl) hc' with rfl | rfl
   ·rfl
   ·exact (hbm g hg).elim
   ·exact (hbm g hg').elim
   ·rfl)
  (fun k hk=>hφ k (Au h hk))
 exact hK _ _ _ _ (hR.put (d:=o.dst) hd (Mem.le_refl _) hR.new hR.hi hR.below ⟨fun _=>(upd_same _ _ _).symm,fun hf=>by cases hf⟩ (AV.dL.2 (by simp [Lf.ltB])))
def levels (cf:Cfg) (e:Nat):List Nat:=match cf.ty e with
 | .slice e2=>(match cf.ty e2 with
  | .slice e3=>[e2,e3]
  | _=>[e2])
 | _=>[]
theorem Ur (h:RA P cf b N φ β M ⟨T,H⟩ a w) (hg:o.guard=none) (hd:o.dst.all (Nat.blt · N)=true) {t e:Nat} {x y:Operand} (ho:o.op = .makeSlice t x y) (ht:cf.ty t = .slice e) (hz:cf.sz e≠0) {m:Int} {c:Cn} {es:List Nat}
    (hx:look T x=(true,.int m)) (hy:look T y=(true,.int m)) (hm0:0<=m) (hm1:m<=1073741824) (hc:zeros cf e m.toNat=some c) (hf:c.flat=false) (hdp:es.length+1=c.deep) (hw:c.w=cf.sz e) (hzv:cf.zero e=ji c) (hby:cf.bytes e<=4096)
    (K:∀ φ' β' a' w',RA P cf b N φ' β' M ⟨T.put o.dst (true,.lf (.own H.length)),H++[.tree (e::es) c]⟩ a' w'->wpList P ops Q rest a' w'):wpList P ops Q (o::rest) a w:=by
  obtain ⟨inf,hinf,hsz,hbt,z,hz1,hz2,hz3⟩:=h.cf.info e hz
  have hty:=h.cf.ty t
  rw [ht] at hty
  obtain ⟨n,rfl⟩:=Int.eq_ofNat_of_zero_le hm0
  rw [Int.toNat_natCast] at hc
  have hrx:a.eval x = .int .i64 n:=by have:=h.ctx.t x (by rw [hx]);rw [hx] at this;exact this
  have hry:a.eval y = .int .i64 n:=by have:=h.ctx.t y (by rw [hy]);rw [hy] at this;exact this
  have hcw:c.w=1:=by cases c<;>simp [Cn.flat] at hf<;>rfl
  refine wpList_make_full w hg x y t ho 0 e inf z c.w hty hinf hz1 (by rw [hsz,hw]) .i64 .i64 n n n hrx hry rfl rfl ?_ (by simp only [maxLen];omega) (Nat.zero_le _) ?_
  · rw [hbt]
    have:cf.bytes e*n<=4096*1073741824:=Nat.mul_le_mul hby (by omega)
    omega
  · intro w' r1 r2
    have hzs:z.cells.toList=[.slice none 0 0]:=by rw [hz2,hzv];cases c<;>simp [Cn.flat] at hf<;>rfl
    have hza:z.cells=#[.slice none 0 0]:=Array.toList_inj.1 hzs
    have hlen:c.len=n/\∀ j,j<n->(c.sub j).len=0/\(c.sub j).ok/\es.length=(c.sub j).deep:=by
      unfold zeros at hc
      split at hc<;>first | (cases hc;done) | skip
      all_goals try (split at hc)
      all_goals
        cases hc
        first
          | (simp [Cn.flat] at hf;done)
          | (refine ⟨by simp [Cn.len], fun j hj =>?_⟩
             simp only [Cn.sub,pW hj]
             simp only [Cn.deep] at hdp ⊢
             exact ⟨rfl,by simp [Cn.ok],by omega⟩)
    obtain ⟨hl1,hl2⟩:=hlen
    have hcell:∀ (j:Nat) (v:Value),(madeCells z.cells (n*c.w)).toList[j]? = some v->v = .slice none 0 0:=fun j v hv=>by
      rw [hza] at hv
      simp only [madeCells,Array.toList_map,Array.toList_range,List.getElem?_map,Option.map_eq_some_iff] at hv
      obtain ⟨k,_,e⟩:=hv
      rw [← e]
      simp [Nat.mod_one]
    have hT:gX w' (e::es) c (.slice (some ⟨w.heap.size,0,none⟩) n n) (fun g=>g=w.heap.size):=by
      match es,hdp,hl2 with
      | [],hdp,_=>cases c<;>simp [Cn.flat] at hf<;>simp [Cn.deep] at hdp
      | e2::es,hdp,hl2 =>
        refine ⟨hf,(madeCells z.cells (n*c.w)).toList,fun _ _=>False,by rw [hl1,← hcw];exact r1,fun g hg=>⟨by simp [blk] at hg;omega,fun _ h=>h⟩,fun _ _ h=>h.elim,fun _ _ _ h=>h.elim,fun j v hj hv =>?_⟩
        rw [hcell j v hv]
        obtain ⟨k1,k2,k3⟩:=hl2 j (by omega)
        exact acY k3 k1 k2
    have hR:=h.grow (v := .slice (some ⟨w.heap.size,0,none⟩) n n) (o := .tree (e::es) c) (below_grown r2) (fun g=>g=w.heap.size) (fun g hg'=>by
      subst hg'
      exact ⟨Nat.le_refl _,(r1.lt w.heap.size rfl).2⟩) hT trivial
    exact K _ _ _ _ (hR.put (d:=o.dst) hd (Mem.le_refl _) hR.new hR.hi hR.below ⟨fun _=>(upd_same _ _ _).symm,fun hf=>by cases hf⟩ (AV.dL.2 (by simp [Lf.ltB])))
end
def TV.dU (H:List Ob) (v:TV):Bool:=v.cs.all (Lf.dU H)
def tq (cf:Cfg) (ops:Array Oper) (K:St->Prop) (o:Oper) (X:St):Prop :=
 (guardOf ops o X.T).1/\(qev cf X.H X.T (guardOf ops o X.T).2 o.op).1/\K ⟨X.T.put o.dst ((guardOf ops o X.T).2,(qev cf X.H X.T (guardOf ops o X.T).2 o.op).2),X.H⟩
def Vj (cf : Cfg) (K : St -> Prop) (o : Oper) (X : St) (n e : Nat) (parts : Array (Nat × Operand)) : Prop := parts.toList.map (·.1) = List.range (n + 1) /\ (match parts.toList.mapM (fun p => match look X.T p.2 with | (true, .tv v) => some v | _ => none) with
      | some vs=>(match sF vs with
        | some c=>cf.sz e≠0/\(n+1)*cf.sz e<=16777216/\(∀ v∈vs,v.cs.length=cf.sz e/\v.cs.all (Lf.dU X.H)=true)/\c.w=cf.sz e/\K ⟨X.T.put o.dst (true,.sl c),X.H⟩
        | none=>False)
      | none=>False)
def QV (K:St->Prop) (X:St) (t1:Nat) (i j m:Nat) (wd off:Nat) (oi om:Ob):Prop:=match oK j oi,om.oO with
 | some (e,es,c),some (es',d)=>(match c.pV j d with
  | some c'=>wd=1/\off=0/\i≠m/\es'=es/\j<c.len/\t1=1/\K ⟨X.T.map (Lf.kill m),((X.H.map (Ob.map (Lf.kill m))).set i (.tree (e::es) c')).set m .gone⟩
  | none=>False)
 | _,_=>False
def Cm (P:Program) (fx:List Bool) (K:St->Prop) (o:Oper) (X:St) (c:Call):Prop :=
 (o.guard=none/\∃ σ ks r Hout,OO P fx X c σ r Hout ks/\K ⟨(X.T.map (Lf.eG ks)).put o.dst (true,r.map (Lf.ren (cu σ X.H.length))),plug (X.H.map (Ob.map (Lf.eG ks))) σ (Hout.map (Ob.map (Lf.ren (cu σ X.H.length))))⟩) \/
 (o.guard=none/\∃ r Hout,qV P X.H X.T c r Hout/\K ⟨X.T.put o.dst (true,r.map (Lf.ren (cu [] X.H.length))),X.H++Hout.map (Ob.map (Lf.ren (cu [] X.H.length)))⟩)
theorem TR {P:Program} {fx0:List Bool} {K:St->Prop} {o:Oper} {X:St} {c:Call} (σ:List Nat) {f:Nat} {xs:List Lf} {args:List AV} {fx:List Bool} {Hin Hout:List Ob} {r:AV} (h:bP P f args fx Hin r Hout) (hg:o.guard=none) (h1:bQ X.T c=some (true,f,xs)) (h2:∀ x∈c.args.toList,(look X.T x).1=true) (h3:(c.args.toList.map fun x=>(look X.T x).2)++xs.map (fun y=>AV.lf y)=args.map (AV.map (Lf.ren (cu σ X.H.length))))
  (h4:picks X.H (cu σ X.H.length) σ Hin) (h5:∀ o∈Hin,o.lt Hin.length) (hn:σ.Nodup) (hl:∀ s∈σ,s<X.H.length) (hf:∀ s∈lost σ fx,fx0.getD s false=false) (hK:K ⟨(X.T.map (Lf.eG (lost σ fx))).put o.dst (true,r.map (Lf.ren (cu σ X.H.length))),plug (X.H.map (Ob.map (Lf.eG (lost σ fx)))) σ (Hout.map (Ob.map (Lf.ren (cu σ X.H.length))))⟩):Cm P fx0 K o X c :=
 .inl ⟨hg,σ,_,r,Hout,⟨⟨f,xs,args,fx,Hin,h1,h2,h3,h4,h5,h,rfl⟩,hn,hl,hf⟩,hK⟩
theorem TS {P:Program} {fx0:List Bool} {K:St->Prop} {o:Oper} {X:St} {c:Call} {f:Nat} {xs:List Lf} {vs:List AV} {Hout:List Ob} {r:AV} (h:bP P f vs [] [] r Hout) (hg:o.guard=none) (h1:bQ X.T c=some (true,f,xs)) (h2:∀ x∈c.args.toList,(look X.T x).1=true) (h3:jF X.H X.T c xs=some vs)
  (h4:r.mf=true) (h5:Hout.all Ob.mf=true) (h6:vs.all AV.free=true) (hK:K ⟨X.T.put o.dst (true,r.map (Lf.ren (cu [] X.H.length))),X.H++Hout.map (Ob.map (Lf.ren (cu [] X.H.length)))⟩):Cm P fx0 K o X c :=
 .inr ⟨hg,r,Hout,⟨f,xs,vs,h1,h2,h3,h,h4,h5,h6⟩,hK⟩
def MK (P:Program) (fx:List Bool) (ops:Array Oper) (K:St->Prop) (o:Oper) (X:St) (c:Call):Prop:=(guardOf ops o X.T).1/\(((guardOf ops o X.T).2=false/\∃ r,r.oP=true/\K ⟨X.T.put o.dst (false,r),X.H⟩) \/
 ((guardOf ops o X.T).2=true/\∃ σ ks r Hout,OO P fx X c σ r Hout ks/\K ⟨(X.T.map (Lf.eG ks)).put o.dst (true,r.map (Lf.ren (cu σ X.H.length))),plug (X.H.map (Ob.map (Lf.eG ks))) σ (Hout.map (Ob.map (Lf.ren (cu σ X.H.length))))⟩))
def stepW (P:Program) (cf:Cfg) (fx:List Bool) (N:Nat) (ops:Array Oper) (K:St->Prop) (o:Oper) (X:St):Prop :=
 o.dst.all (Nat.blt · N)=true/\match o.op with
 | .box _ x=>o.guard=none/\(match look X.T x with
  | (true,v)=>(match cellsOf v with
   | some cs=>qX X.H v=true/\K ⟨X.T.put o.dst (true,.lf (.ptr X.H.length 0)),X.H++[.box cs]⟩
   | none=>False)
  | _=>False)
 | .alloc t=>o.guard=none/\cf.sz t≠0/\K ⟨X.T.put o.dst (true,.lf (.ptr X.H.length 0)),X.H++[.box ((cf.zero t).map fun v => .b (.val v))]⟩
 | .load t x=>(match (look X.T x).2 with
  | .tv (.one (.oa i wd j off))=>(match X.H[i]? with
   | some (.tree (e::e2::es) c)=>(look X.T x).1=true/\o.guard=none/\wd=1/\off=0/\j<c.len/\(cf.ty t).agg=false/\(match cf.ty t with | .bad=>False | _=>True)/\K ⟨X.T.put o.dst (true,.lf (.own X.H.length)),(X.H.set i (.hole e (e2::es) c j (.own X.H.length)))++[Fh (e2::es) (c.sub j)]⟩
   | _=>tq cf ops K o X)
  | _=>tq cf ops K o X)
 | .store t x y=>o.guard=none/\o.dst=none/\cf.sz t≠0/\(match look X.T x,look X.T y with
  | (true,.tv (.one (.ptr i off))),(true,.tv v)=>(match X.H[i]? with
   | some (.box cs)=>v.dU X.H=true/\v.cs.length=cf.sz t/\off+v.cs.length<=cs.length/\K ⟨X.T,X.H.set i (.box (splice cs off v.cs))⟩
   | _=>False)
  | (true,.tv (.one (.oa i wd j off))),(true,.tv v)=>(match X.H[i]? with
   | some (.row e c)=>(match c.put j off v with
    | some c'=>v.dU X.H=true/\v.cs.length=cf.sz t/\wd=c.w/\j<c.len/\off+v.cs.length<=c.w/\K ⟨X.T,X.H.set i (.row e c')⟩
    | none=>False)
   | some oi=>(match v with
    | .one (.own m)=>(match X.H[m]? with
     | some om=>QV K X (cf.sz t) i j m wd off oi om
     | none=>False)
    | _=>False)
   | none=>False)
  | _,_=>False)
 | .makeSlice t x y=>o.guard=none/\(match look X.T x,look X.T y,cf.ty t with
  | (true,.tv (.one (.b (.val (.int .i64 m))))),(true,.tv (.one (.b (.val (.int .i64 m'))))),.slice e=>(match zeros cf e m.toNat with
   | some c=>m=m'/\cf.sz e≠0/\0<=m/\m<=1073741824/\c.w=cf.sz e/\cf.zero e=ji c/\cf.bytes e<=4096/\(bif c.flat then K ⟨X.T.put o.dst (true,.lf (.own X.H.length)),X.H++[.row e c]⟩ else ((levels cf e).length+1=c.deep/\K ⟨X.T.put o.dst (true,.lf (.own X.H.length)),X.H++[.tree (e::levels cf e) c]⟩))
   | none=>False)
  | _,_,_=>False)
 | .buildSlice t n parts=>(match o.guard with
  | some _=>(match n,cf.ty t with
   | 0,.slice e=>(match emp cf e with
    | some c=>parts=#[]/\cf.sz e≠0/\(guardOf ops o X.T).1/\K ⟨X.T.put o.dst ((guardOf ops o X.T).2,.sl c),X.H⟩
    | none=>False)
   | _,_=>False)
  | none=>(match n,cf.ty t with
  | 0,.slice e=>(match emp cf e with
   | some c=>parts=#[]/\cf.sz e≠0/\K ⟨X.T.put o.dst (true,.lf (.own X.H.length)),X.H++[.row e c]⟩
   | none=>False)
  | n+1,.slice e=>(match parts.toList with
   | [p]=>(match look X.T p.2 with
    | (true,.tv (.one (.own m)))=>(match X.H[m]? with
     | some om=>(match om.oO with
      | some (es,d)=>(match d.wrap with
       | some c=>n=0/\p.1=0/\cf.sz e=1/\K ⟨(X.T.map (Lf.kill m)).put o.dst (true,.lf (.own X.H.length)),((X.H.map (Ob.map (Lf.kill m))).set m .gone)++[.tree (e::es) c]⟩
       | none=>False)
      | none=>False)
     | none=>False)
    | _=>Vj cf K o X n e parts)
   | _=>Vj cf K o X n e parts)
  | _,_=>False))
 | .call c=>(match c.callee,c.args.toList,c.argTypes.toList with
  | .builtin .append,[x,y],[t,t']=>o.guard=none/\t=t'/\(match look X.T x,look X.T y,cf.ty t with
   | (true,.tv (.one (.own i))),(true,v),.slice e=>fx.getD i false=false/\(match X.H[i]? with
    | some (.row e' c)=>(match content X.H v with
     | some c2=>(match c.app c2 with
      | some c'=>e=e'/\cf.sz e≠0/\c.w=cf.sz e/\c.len+c2.len<=1073741824/\cf.bytes e<=4096/\K ⟨(X.T.map (Lf.kill i)).put o.dst (true,.lf (.own i)),(X.H.map (Ob.map (Lf.kill i))).set i (.row e c')⟩
      | none=>False)
     | none=>False)
    | some (.tree (e'::e2::es) c)=>(match v with
     | .tv (.one (.own m))=>(match X.H[m]? with
      | some (.tree es' c2)=>(match c.app c2 with
       | some c'=>e=e'/\es'=e'::e2::es/\i≠m/\cf.sz e=1/\0<c2.len/\c.len+c2.len<=1073741824/\cf.bytes e<=4096/\K ⟨((X.T.map (Lf.kill m)).map (Lf.kill i)).put o.dst (true,.lf (.own i)),(((X.H.map (Ob.map (Lf.kill m))).map (Ob.map (Lf.kill i))).set i (.tree (e'::e2::es) c')).set m .gone⟩
       | none=>False)
      | _=>False)
     | _=>False)
    | _=>False)
   | (true,.tv (.one (.b (.val (.slice none 0 0))))),(true,v),.slice e=>(match content X.H v with
    | some c2=>cf.sz e≠0/\c2.w=cf.sz e/\0<c2.len/\c2.len<=1073741824/\cf.bytes e<=4096/\K ⟨X.T.put o.dst (true,.lf (.own X.H.length)),X.H++[.row e c2]⟩
    | none=>False)
   | _,_,_=>False)
  | .value _,_,_=>((guardOf ops o X.T).1/\∃ r,lI P X.H X.T (guardOf ops o X.T).2 c r/\K ⟨X.T.put o.dst ((guardOf ops o X.T).2,r),X.H⟩)\/Cm P fx K o X c\/MK P fx ops K o X c
  | _,_,_=>tq cf ops K o X)
 | _=>tq cf ops K o X
def sW (P:Program) (cf:Cfg) (fx:List Bool) (N:Nat) (ops:Array Oper) (Q:St->Prop):List Oper->St->Prop
 | [],X=>Q X
 | o::l,X=>stepW P cf fx N ops (sW P cf fx N ops Q l) o X
section
variable {P:Program} {cf:Cfg} {b:Base} {N:Nat} {φ:Nat->Value} {β:Nat->Nat->Prop} {M:Mem} {T:Tm} {H:List Ob} {a:Act} {w w':World}
variable {ops:Array Oper} {o:Oper} {Q:Exit->Act->World->Prop} {rest:List Oper}
theorem CO {v:TV} (h:v.dU H=true):cellsOf (.tv v)=some v.cs/\qX H (.tv v)=true:=by
 cases v with
 | agg xs=>exact ⟨rfl,rfl⟩
 | one x =>
  simp only [TV.dU,TV.cs,List.all_cons,List.all_nil,Bool.and_true] at h
  cases x with
  | b x =>
   cases x with
   | val v =>
    have h':kZ v=true:=h
    exact ⟨by simp [cellsOf,h',TV.cs],rfl⟩
   | sl c=>exact ⟨rfl,rfl⟩
   | raw c=>exact ⟨rfl,rfl⟩
   | fn f c=>cases h
   | bm f c=>cases h
  | own i =>
   refine ⟨rfl,?_⟩
   simp only [Lf.dU] at h
   simp only [qX]
   exact h
  | ptr i o=>exact ⟨rfl,rfl⟩
  | ip xs o=>exact ⟨rfl,rfl⟩
  | _=>cases h
theorem SQ {K:St->Prop} {X:St} (hd:o.dst.all (Nat.blt · N)=true) (hs:tq cf ops K o X):oN P cf X.H N ops o X.T ((guardOf ops o X.T).2,(qev cf X.H X.T (guardOf ops o X.T).2 o.op).2)/\K ⟨X.T.put o.dst ((guardOf ops o X.T).2,(qev cf X.H X.T (guardOf ops o X.T).2 o.op).2),X.H⟩ :=
 ⟨⟨hd,hs.1,rfl,.inr ⟨hs.2.1,rfl⟩⟩,hs.2.2⟩
theorem G7 {v:Bool×AV} {X:St} (hR:RA P cf b N φ β M X a w) (hok:oN P cf X.H N ops o X.T v) (K:∀ M' a' w',RA P cf b N φ β M' ⟨X.T.put o.dst v,X.H⟩ a' w'->wpList P ops Q rest a' w'):wpList P ops Q (o::rest) a w:=by
 have:=yF (Q:=Q) hR hok (K:=wpList P ops Q rest) (fun M' a' w' _ hR'=>K M' a' w' hR')
 unfold wpList
 split
 ·rename_i hw
  rw [if_pos hw] at this
  exact .inl this
 ·rename_i hw
  rw [if_neg hw] at this
  exact this
theorem NJ {X:St} (hR:RA P cf b N φ β M X a w) (hd:o.dst.all (Nat.blt · N)=true) {t e:Nat} (ho:o.op = .buildSlice t 0 #[]) (ht:cf.ty t = .slice e) (hz:cf.sz e≠0) {c:Cn} (hc:emp cf e=some c) (hg:(guardOf ops o X.T).1) (K:∀ M' a' w',RA P cf b N φ β M' ⟨X.T.put o.dst ((guardOf ops o X.T).2,.sl c),X.H⟩ a' w'->wpList P ops Q rest a' w'):wpList P ops Q (o::rest) a w:=by
 have hw:=Ah hR hg
 obtain ⟨hc0,hok⟩:=PG hc
 have hlt:AV.lt X.H.length (.sl c):=AV.dL.2 rfl
 unfold wpList
 split
 ·rename_i h1
  rw [hw] at h1
  left
  have hty:=hR.cf.ty t
  rw [ht] at hty
  have hrun:(execOp a.eval o).run P w = .ok (.value (.slice (some ⟨w.heap.size,0,none⟩) 0 0)) (w.alloc (.cells #[] e)):=by
   simp [execOp,ho,Instr.buildSlice,run_underlying (show P.underlying t=_ from hty),Eu hR.cf hz,Instr.fill,newRow]
   rw [Array.range_zero',Array.map_empty]
  unfold Oper.wp
  rw [hrun]
  obtain ⟨hm,hR2⟩:=hR.ext (iT w (.cells #[] e))
  refine K _ _ _ (hR2.put (d:=o.dst) hd (Mem.le_refl _) hR2.new hR2.hi hR2.below ⟨fun _ =>?_,fun hf=>by rw [h1] at hf;cases hf⟩ hlt)
  exact B.jB.2 ⟨[],⟨some ⟨w.heap.size,0,none⟩,0,by rw [hc0],by omega,by omega,fun h=>(h rfl).elim⟩,hok,by rw [hc0,Nat.zero_mul];rfl,fun j o hj=>by omega⟩
 ·rename_i h1
  rw [hw,Bool.not_eq_true] at h1
  exact K _ _ _ (hR.put (d:=o.dst) (u:=undef) hd (Mem.le_refl _) hR.new hR.hi hR.below ⟨fun hf=>(by rw [h1] at hf;cases hf),fun _=>rfl⟩ hlt)
theorem Vk {X:St} (hR:RA P cf b N φ β M X a w) (hd:o.dst.all (Nat.blt · N)=true) (hg:o.guard=none) {K:St->Prop} {t n e:Nat} {parts:Array (Nat×Operand)} (ho:o.op = .buildSlice t (n+1) parts) (ht:cf.ty t = .slice e) (hs:Vj cf K o X n e parts) (hK:∀ φ' β' M' X' a' w',K X'->RA P cf b N φ' β' M' X' a' w'->wpList P ops Q rest a' w'):wpList P ops Q (o::rest) a w:=by
 obtain ⟨hidx,hs⟩:=hs
 split at hs
 ·rename_i vs hvs
  split at hs
  ·rename_i c hc
   obtain ⟨hz,hn,hsz,hw,hs⟩:=hs
   exact wpList_plain hg fun K' hK'=>Ue hR hd ho ht hz (Nat.succ_pos _) hn hidx hvs hsz hc hw fun M' a' w' hR'=>hK' _ _ (hK _ _ _ _ _ _ hs hR')
  ·exact hs.elim
 ·exact hs.elim
theorem wpList_step {K:St->Prop} {X:St} (hR:RA P cf b N φ β M X a w) (hs:stepW P cf b.fx N ops K o X) (hK:∀ φ' β' M' X' a' w',K X'->RA P cf b N φ' β' M' X' a' w'->wpList P ops Q rest a' w'):wpList P ops Q (o::rest) a w:=by
 obtain ⟨hd,hs⟩:=hs
 have hq:tq cf ops K o X->wpList P ops Q (o::rest) a w:=fun hq=>by
  obtain ⟨h1,h2⟩:=SQ (P:=P) hd hq
  exact G7 hR h1 fun M' a' w' hR'=>hK _ _ _ _ _ _ h2 hR'
 have hp:∀ {K':Act->World->Prop},(∀ a' w',K' a' w'->wpList P ops Q rest a' w')->o.guard=none->(∀ K'',(∀ a' w',K' a' w'->K'' a' w')->o.wp P a w K'' Q)->wpList P ops Q (o::rest) a w:=fun h1 hg h2=>wpList_plain hg fun K'' hK''=>h2 K'' fun a' w' hk=>hK'' _ _ (h1 a' w' hk)
 split at hs
 case h_1 t x ho =>
  obtain ⟨hg,hs⟩:=hs
  split at hs
  ·rename_i v hx
   split at hs
   ·rename_i cs hcs
    exact wpList_plain hg fun K' hK'=>Zt hR hd ho hx hcs hs.1 fun φ' β' a' w' hR'=>hK' _ _ (hK _ _ _ _ _ _ hs.2 hR')
   ·exact hs.elim
  ·exact hs.elim
 case h_2 t ho =>
  obtain ⟨hg,hz,hs⟩:=hs
  exact wpList_plain hg fun K' hK'=>JK hR hd ho hz fun φ' β' a' w' hR'=>hK' _ _ (hK _ _ _ _ _ _ hs hR')
 case h_3 t x ho =>
  split at hs
  ·rename_i i wd j off hx
   split at hs
   ·rename_i e e2 es c hi
    obtain ⟨hx1,hg,rfl,rfl,hj,hag,hb,hs⟩:=hs
    exact wpList_plain hg fun K' hK'=>Ud hR hd ho hb hag (Prod.ext hx1 hx) hi hj fun φ' β' a' w' hR'=>hK' _ _ (hK _ _ _ _ _ _ hs hR')
   ·exact hq hs
  ·exact hq hs
 case h_4 t x y ho =>
  obtain ⟨hg,hd',hz,hs⟩:=hs
  split at hs
  ·rename_i i off v hx hy
   split at hs
   ·rename_i cs hi
    obtain ⟨h1,h2,h3,h4⟩:=hs
    obtain ⟨k1,k2⟩:=CO h1
    exact wpList_plain hg fun K' hK'=>mg hR hd' ho hz hx hi hy k1 k2 h1 h2 h3 fun a' w' hR'=>hK' _ _ (hK _ _ _ _ _ _ h4 hR')
   ·exact hs.elim
  ·rename_i i wd j off v hx hy
   split at hs
   ·rename_i e c hi
    split at hs
    ·rename_i c' hp
     obtain ⟨h1,h2,h3,h4,h5,h6⟩:=hs
     exact wpList_plain hg fun K' hK'=>xI hR hd' ho hz hx hi hy h1 h2 h3 h4 h5 hp fun a' w' hR'=>hK' _ _ (hK _ _ _ _ _ _ h6 hR')
    ·exact hs.elim
   ·rename_i oi hi
    split at hs
    ·rename_i m
     split at hs
     ·rename_i om hm
      unfold QV at hs
      split at hs
      ·rename_i e es c es' d h1 h2
       split at hs
       ·rename_i c' hp
        obtain ⟨rfl,rfl,hne,rfl,hj,hz1,hs⟩:=hs
        exact wpList_plain hg fun K' hK'=>Zv hR hd' ho hz1 hx hy hne hi hm h1 h2 hj hp fun β' a' w' hR'=>hK' _ _ (hK _ _ _ _ _ _ hs hR')
       ·exact hs.elim
      ·exact hs.elim
     ·exact hs.elim
    ·exact hs.elim
   ·exact hs.elim
  ·exact hs.elim
 case h_5 t x y ho =>
  obtain ⟨hg,hs⟩:=hs
  split at hs
  ·rename_i m m' e hx hy ht
   split at hs
   ·rename_i c hc
    obtain ⟨rfl,hz,h0,h1,hw,hzv,hby,hs⟩:=hs
    cases hf:c.flat with
    | true =>
     rw [hf] at hs
     exact XO hR hg hd ho ht hz hx hy h0 h1 hc hw hzv hby fun φ' β' a' w' hR'=>hK _ _ _ _ _ _ hs hR'
    | false =>
     rw [hf] at hs
     exact Ur hR hg hd ho ht hz hx hy h0 h1 hc hf hs.1 hw hzv hby fun φ' β' a' w' hR'=>hK _ _ _ _ _ _ hs.2 hR'
   ·exact hs.elim
  ·exact hs.elim
 case h_6 t n parts ho =>
  split at hs
  ·split at hs
   ·rename_i e ht
    split at hs
    ·rename_i c hc
     obtain ⟨rfl,hz,hg,hs⟩:=hs
     exact NJ hR hd ho ht hz hc hg fun M' a' w' hR'=>hK _ _ _ _ _ _ hs hR'
    ·exact hs.elim
   ·exact hs.elim
  rename_i hg
  split at hs
  ·rename_i e ht
   split at hs
   ·rename_i c hc
    obtain ⟨rfl,hz,hs⟩:=hs
    exact wpList_plain hg fun K' hK'=>Ph hR hd ho ht hz hc fun φ' β' a' w' hR'=>hK' _ _ (hK _ _ _ _ _ _ hs hR')
   ·exact hs.elim
  ·rename_i n e ht
   split at hs
   ·rename_i p hp1
    split at hs
    ·rename_i m hy
     split at hs
     ·rename_i om hm
      split at hs
      ·rename_i es d hot
       split at hs
       ·rename_i c hw
        obtain ⟨rfl,hp0,hz1,hs⟩:=hs
        have hpe:parts=#[(0,p.2)]:=Array.toList_inj.1 (by rw [hp1,← hp0])
        exact wpList_plain hg fun K' hK'=>XG hR hd (by rw [ho,hpe]) ht hz1 hy hm hot hw fun φ' β' a' w' hR'=>hK' _ _ (hK _ _ _ _ _ _ hs hR')
       ·exact hs.elim
      ·exact hs.elim
     ·exact hs.elim
    ·exact Vk hR hd hg ho ht hs hK
   ·exact Vk hR hd hg ho ht hs hK
  ·exact hs.elim
 case h_7 c ho =>
  obtain ⟨cl,⟨as⟩,⟨ts⟩⟩:=c
  split at hs
  ·rename_i x y t t' _ _ _
   simp only at *
   subst_vars
   obtain ⟨hg,rfl,hs⟩:=hs
   split at hs
   ·rename_i i v e hx hy ht
    obtain ⟨hfx,hs⟩:=hs
    split at hs
    ·rename_i e' c hi
     split at hs
     ·rename_i c2 hc
      split at hs
      ·rename_i c' hap
       obtain ⟨rfl,hz,hw,hn,hby,hs⟩:=hs
       exact Zy hR hg hd ho ht hz hx hfx hi hy hc hw hap hn hby fun φ' β' a' w' hR'=>hK _ _ _ _ _ _ hs hR'
      ·exact hs.elim
     ·exact hs.elim
    ·rename_i e' e2 es c hi
     split at hs
     ·rename_i m
      split at hs
      ·rename_i es' c2 hm
       split at hs
       ·rename_i c' hap
        obtain ⟨rfl,rfl,hne,hz,h0,hn,hby,hs⟩:=hs
        exact XM hR hg hd ho ht hz hne hx hfx hi hy hm h0 hap hn hby fun φ' β' a' w' hR'=>hK _ _ _ _ _ _ hs hR'
       ·exact hs.elim
      ·exact hs.elim
     ·exact hs.elim
    ·exact hs.elim
   ·rename_i v e hx hy ht
    split at hs
    ·rename_i c2 hc
     obtain ⟨hz,hw,h0,hn,hby,hs⟩:=hs
     exact Nb hR hg hd ho ht hz hx hy hc hw h0 hn hby fun φ' β' a' w' hR'=>hK _ _ _ _ _ _ hs hR'
    ·exact hs.elim
   ·exact hs.elim
  ·rcases hs with ⟨hg,r,hc,hs⟩ | hs
   rotate_left
   rcases hs with (⟨hg,σ,ks,r,Hout,hc,hs⟩ | ⟨hg,r,Hout,hc,hs⟩) | ⟨hg,hs⟩
   rotate_left 3
   ·exact G7 (v:=((guardOf ops o X.T).2,r)) hR ⟨hd,hg,rfl,.inl ⟨_,ho,hc⟩⟩ fun M' a' w' hR'=>hK _ _ _ _ _ _ hs hR'
   ·exact wpList_plain hg fun K' hK'=>CQ hR hd ho hc fun φ' β' M' a' w' hR'=>hK' _ _ (hK _ _ _ _ _ _ hs hR')
   ·exact wpList_plain hg fun K' hK'=>CS hR hd ho hc fun φ' β' a' w' hR'=>hK' _ _ (hK _ _ _ _ _ _ hs hR')
   ·have hw:=Ah hR hg
    unfold wpList
    rcases hs with ⟨h2,r,hr,hs⟩ | ⟨h2,σ,ks,r,Hout,hc,hs⟩
    ·rw [h2] at hw
     rw [if_neg (by rw [hw];simp)]
     exact hK _ _ _ _ _ _ hs (hR.put (d:=o.dst) (u:=undef) hd (Mem.le_refl _) hR.new hR.hi hR.below ⟨fun hf=>(by cases hf),fun _=>rfl⟩ (Xg hr _))
    ·rw [h2] at hw
     rw [if_pos hw]
     exact .inl (CQ hR hd ho hc fun φ' β' M' a' w' hR'=>hK _ _ _ _ _ _ hs hR')
  ·exact hq hs
 case h_8=>exact hq hs
theorem qR {K:St->Prop} {Q':Exit->Act->World->Prop} (hQ:∀ φ' β' M' X' a' w',K X'->RA P cf b N φ' β' M' X' a' w'->Q' .normal a' w'):∀ (l:List Oper) (φ:Nat->Value) (β:Nat->Nat->Prop) (M:Mem) (X:St) (a:Act) (w:World),
  RA P cf b N φ β M X a w->sW P cf b.fx N ops K l X->wpList P ops Q' l a w
 | [],_,_,_,_,_,_,hR,h=>hQ _ _ _ _ _ _ h hR
 | o::l,_,_,_,_,_,_,hR,h=>wpList_step hR h fun φ' β' M' X' a' w' hK hR'=>qR hQ l φ' β' M' X' a' w' hR' hK
end
section
variable {P:Program} {cf:Cfg} {b:Base} {N:Nat} {Q:Exit->St->Prop} {X:St}
theorem OZ {id:Nat} {l:List Oper} (h:sW P cf b.fx N l.toArray (fun X'=>Q .normal X') l X):awp P cf b N (.region id l.toArray false) Q X:=fun a w ⟨φ,β,M,hR⟩ =>
 wp_region_lit (qR (K:=fun X'=>Q .normal X') (fun φ' β' M' X' a' w' hQ hR'=>⟨_,hQ,φ',β',M',hR'⟩) l φ β M X a w hR h)
theorem aK {c:Code} (i:Nat) {e:Nat} {d:Cn} (hi:X.H[i]? = some (.row e d)) (h:awp P cf b N c Q ⟨X.T.map (Lf.frz i d),(X.H.map (Ob.map (Lf.frz i d))).set i .gone⟩):awp P cf b N c Q X:=fun a w ⟨φ,β,M,hR⟩=>by
 obtain ⟨β',M',hR'⟩:=hR.freeze hi
 exact h a w ⟨φ,β',M',hR'⟩
theorem dQ {c:Code} (i:Nat) {es:List Nat} {d:Cn} (hi:X.H[i]? = some (.tree es d)) (h:awp P cf b N c Q ⟨X.T.map (Lf.frz i d),(X.H.map (Ob.map (Lf.frz i d))).set i .gone⟩):awp P cf b N c Q X:=fun a w ⟨φ,β,M,hR⟩=>by
 obtain ⟨β',M',hR'⟩:=hR.XU hi
 exact h a w ⟨φ,β',M',hR'⟩
theorem lH {c:Code} (i n:Nat) {p:Ob} (hi:X.H[i]? = some .gone) (hn:X.H[n]? = some p) (hne:i≠n) (hfi:b.fx.getD i false=false) (hfn:b.fx.getD n false=false) (h:awp P cf b N c Q ⟨X.T.map (Lf.mv i n),((X.H.map (Ob.map (Lf.mv i n))).set i (p.map (Lf.mv i n))).set n .gone⟩):awp P cf b N c Q X:=fun a w ⟨φ,β,M,hR⟩=>by
 obtain ⟨φ',β',hR'⟩:=hR.mv hi hn hne hfi hfn
 exact h a w ⟨φ',β',M,hR'⟩
theorem tX {c:Code} (i:Nat) {j m e:Nat} {es:List Nat} {d d' d2:Cn} {om:Ob} (hi:X.H[i]? = some (.hole e es d j (.own m))) (hne:i≠m) (hm:X.H[m]? = some om) (hot:om.oO=some (es,d2)) (hj:j<d.len) (hp:d.pV j d2=some d') (h:awp P cf b N c Q ⟨X.T.map (Lf.kill m),((X.H.map (Ob.map (Lf.kill m))).set i (.tree (e::es) d')).set m .gone⟩):awp P cf b N c Q X:=fun a w ⟨φ,β,M,hR⟩=>by
 obtain ⟨β',hR'⟩:=hR.unfocus hne hi hm hot hj hp
 exact h a w ⟨φ,β',M,hR'⟩
theorem tV {c:Code} (i e2:Nat) (es:List Nat) {e:Nat} {d:Cn} (hi:X.H[i]? = some (.row e d)) (h0:d.len=0) (hf:d.flat=false) (h:awp P cf b N c Q ⟨X.T,X.H.set i (.tree (e::e2::es) d)⟩):awp P cf b N c Q X:=fun a w ⟨φ,β,M,hR⟩ =>
 h a w ⟨φ,β,M,hR.toT hi h0 hf⟩
end
def params:Nat->List AV->List (Nat×Bool×AV)
 | _,[]=>[]
 | i,v::vs=>(i,true,v)::params (i+1) vs
theorem wU:∀ (vs:List AV) (i t:Nat),(∃ j,∃ h:j<vs.length,t=i+j/\tab (params i vs) t=(true,vs[j]))\/tab (params i vs) t=(true,.und)/\(t<i\/i+vs.length<=t)
 | [],i,t => .inr ⟨rfl,by simp;omega⟩
 | v::vs,i,t=>by
  by_cases h:t=i
  ·subst h
   exact .inl ⟨0,by simp,rfl,by simp [params,tab]⟩
  ·have hb:Nat.beq t i=false:=by rw [Bool.eq_false_iff];exact fun k=>h (Nat.eq_of_beq_eq_true k)
   rcases wU vs (i+1) t with ⟨j,hj,h1,h2⟩ | ⟨h1,h2⟩
   ·exact .inl ⟨j+1,by simpa using hj,by omega,by simp only [params,tab,hb,cond_false,h2,List.getElem_cons_succ]⟩
   ·exact .inr ⟨by simp only [params,tab,hb,cond_false,h1],by simp;omega⟩
def nO (cf:Cfg) (X:St):ResultVar->TV->Prop
 | .tmp t,v=>X.T t=(true,.tv v)
 | .cell p ty,v=>(qev cf X.H X.T true (.load ty (.tmp p))).1/\(qev cf X.H X.T true (.load ty (.tmp p))).2 = .tv v
def iZ (cf:Cfg) (X:St):List ResultVar->List TV->Prop
 | [],[]=>True
 | x::xs,v::vs=>nO cf X x v/\iZ cf X xs vs
 | _,_=>False
def Imp (x r:AV):Prop:=∀ M u,x.rel lN M u->r.rel lN M u
theorem Imp.refl (x:AV):Imp x x:=fun _ _ h=>h
theorem Imp.eq {x r:AV} (h:x=r):Imp x r:=h ▸ Imp.refl x
def Em (cf:Cfg) (X:St) (xs:List ResultVar) (r:AV):Prop:=match xs with
 | [x]=>∃ v,nO cf X x v/\(AV.tv v).free=true/\Imp (.tv v) r
 | _=>∃ vs,iZ cf X xs vs/\(AV.tup vs).free=true/\Imp (.tup vs) r
def ends (e:Exit) (p:Prop):Prop:=match e with
 | .normal=>p
 | .ret=>p
 | _=>False
section
variable {P:Program} {cf:Cfg} {b:Base} {N:Nat} {φ:Nat->Value} {β:Nat->Nat->Prop} {M:Mem} {X:St} {a:Act} {w:World}
def Ew (tmps:Array Value) (x:ResultVar):Sem Value:=match x with
 | .tmp t=>pure (tmps.getD t undef)
 | .cell a t=>do loadVar t (← asAddr (tmps.getD a undef))
theorem YE (h:RA P cf b N φ β M X a w) {x:ResultVar} {v:TV} (hr:nO cf X x v):∃ u,(Ew a.tmps x).run P w = .ok u w/\v.rel φ M u:=by
 cases x with
 | tmp t =>
  refine ⟨_,rfl,?_⟩
  have:=(h.t t).1 (by rw [show X.T t=_ from hr])
  rw [show X.T t=_ from hr] at this
  exact this
 | cell p t =>
  obtain ⟨h1,h2⟩:=hr
  obtain ⟨u, h3, h4⟩ := Wp (o := { dst := none, op := .load t (.tmp p), type := 0, pos := "", after := #[], guard := none }) h.ctx rfl h1
  rw [h2] at h4
  refine ⟨u,?_,h4⟩
  have hev:a.eval (.tmp p)=a.tmps.getD p undef:=rfl
  simp only [execOp,hev,Instr.loadAt,Sem.run_bind] at h3
  simp only [Ew,Sem.run_bind]
  generalize a.tmps.getD p undef=q at h3
  cases q with
  | pointer ad =>
   cases ad with
   | none=>simp [Instr.sureAddr] at h3
   | some ad =>
    simp only [Instr.sureAddr,asAddr,Sem.run_pure,Result.andThen_ok] at h3 ⊢
    generalize (loadVar t ad).run P w=r at h3
    cases r with
    | ok z w'=>simp only [Result.andThen_ok,Result.ok.injEq,Next.value.injEq] at h3;rw [h3.1,h3.2]
    | halt z w'=>simp at h3
  | _=>simp [Instr.sureAddr] at h3
theorem wY (h:RA P cf b N φ β M X a w):∀ {xs:List ResultVar} {vs:List TV},iZ cf X xs vs->∃ us,(xs.mapM (Ew a.tmps)).run P w = .ok us w/\YU φ M vs us
 | [],[],_=>⟨[],rfl,rfl,fun j hj=>by simp at hj⟩
 | x::xs,v::vs,hr=>by
  obtain ⟨u,h1,h2⟩:=YE h hr.1
  obtain ⟨us,h3,h4,h5⟩:=wY h hr.2
  refine ⟨u::us,?_,by simp [h4],fun j hj hj' =>?_⟩
  ·rw [List.mapM_cons]
   simp only [Sem.run_bind,h1,Result.andThen_ok,h3,Sem.run_pure]
  ·match j with
   | 0=>exact h2
   | j+1=>exact h5 j (by simpa using hj) (by simpa using hj')
 | [],_::_,h=>h.elim
 | _::_,[],h=>h.elim
theorem YF (h:RA P cf b N φ β M X a w) {fn:Func} {r:AV} (hr:Em cf X fn.results.toList r):∃ u,(results fn a.tmps).run P w = .ok u w/\r.rel lN M u:=by
 unfold Em at hr
 have hm:∀ us,(fn.results.toList.mapM (Ew a.tmps)).run P w = .ok us w->(results fn a.tmps).run P w = .ok (if h:us.toArray.size=1 then us.toArray[0] else .tuple us.toArray) w:=fun us hu=>by
  have hE:results fn a.tmps=(do let vs ← fn.results.mapM (Ew a.tmps);pure (if h:vs.size=1 then vs[0] else .tuple vs)):=rfl
  rw [hE,← Array.toArray_toList (xs:=fn.results),List.mapM_toArray]
  simp only [Sem.run_bind,Sem.run_map,hu,Result.andThen_ok,Sem.run_pure]
 split at hr
 ·rename_i x hx
  obtain ⟨v,h1,h2,h3⟩:=hr
  obtain ⟨us,h4,h5,h6⟩:=wY (xs:=[x]) (vs:=[v]) h ⟨h1,trivial⟩
  match us,h5 with
  | [u],_ =>
   refine ⟨u,?_,h3 M u (xU (x := .tv v) h2 (h6 0 (by simp) (by simp)))⟩
   rw [hm [u] (by rw [hx];exact h4)]
   simp
 ·rename_i hne
  obtain ⟨vs,h1,h2,h3⟩:=hr
  obtain ⟨us,h4,h5,h6⟩:=wY h h1
  have hl:∀ {xs:List ResultVar} {vs:List TV},iZ cf X xs vs->xs.length=vs.length:=fun {xs}=>by
   induction xs with
   | nil=>intro vs h;cases vs with
    | nil=>rfl
    | cons _ _=>exact h.elim
   | cons x xs ih=>intro vs h;cases vs with
    | nil=>exact h.elim
    | cons v vs=>simp [ih h.2]
  have hus:us.length≠1:=fun e=>by
   have h7:=hl h1
   match hxs:fn.results.toList with
   | []=>rw [hxs] at h7;simp at h7;omega
   | [x]=>exact hne x hxs
   | _::_::_=>rw [hxs] at h7;simp at h7;omega
  refine ⟨.tuple us.toArray,?_,h3 M _ (xU (x := .tup vs) h2 ⟨us,rfl,h5,h6⟩)⟩
  rw [hm us h4]
  simp [hus]
end
section
variable {P:Program} {cf:Cfg} {f N:Nat} {fn:Func} {c:Code} {args:List AV}
theorem start {S:Nat->Prop} {φ0 φ:Nat->Value} {β:Nat->Nat->Prop} {fx:List Bool} {H:List Ob} (hcf:jP P cf) (hN:fn.ntmps=N) (hargs:∀ x∈args,x.lt H.length) (hlen:args.length<=N) {M:Mem} {w:World} {us:List Value} (hH:HI φ β M H w) (hS:∀ i g,i<H.length->β i g->S g) (hfx:fx.length<=H.length) (h0:φ0=φ) (ha:BP φ M args us) :
  RA P cf ⟨M,w,S,φ0,fx,[]⟩ N φ β M ⟨tab (params 0 args),H⟩ { tmps:=us.toArray++Array.replicate (fn.ntmps-us.toArray.size) undef,defers:=[] } w:=by
 have hlen':us.length<=N:=by rw [ha.1];exact hlen
 subst h0
 refine ⟨hcf,Mem.le_refl _,fun _ _ e => .inl e,hH,fun t =>?_,fun t =>?_,fun i g hi hg => .inr (hS i g hi hg),by simp [hN];omega,Kept.refl _ _,⟨hfx,fun i _=>rfl⟩,rfl⟩
 ·show (((tab (params 0 args)) t).1=true->AV.rel φ0 M ((tab (params 0 args)) t).2 ((us.toArray++Array.replicate (fn.ntmps-us.toArray.size) undef).getD t undef))/\(((tab (params 0 args)) t).1=false->(us.toArray++Array.replicate (fn.ntmps-us.toArray.size) undef).getD t undef=undef)
  rcases wU args 0 t with ⟨j,hj,h1,h2⟩ | ⟨h1,h2⟩
  ·rw [h2]
   refine ⟨fun _ =>?_,fun hf=>by cases hf⟩
   have hj':j<us.length:=by rw [ha.1];exact hj
   have h3:=ha.2 j hj hj'
   have e:(us.toArray++Array.replicate (fn.ntmps-us.toArray.size) undef).getD t undef=us[j]:=by
    rw [h1,Nat.zero_add,Array.getD_eq_getD_getElem?,Array.getElem?_append_left (by simpa using hj')]
    simp [hj']
   rw [e]
   exact h3
  ·rw [h1]
   exact ⟨fun _=>trivial,fun hf=>by cases hf⟩
 ·show ((tab (params 0 args)) t).2.lt _
  rcases wU args 0 t with ⟨j,hj,h1,h2⟩ | ⟨h1,h2⟩
  ·rw [h2]
   exact hargs _ (List.getElem_mem hj)
  ·rw [h1]
   exact bM
theorem Y6 {M:Mem} {w:World} (hm:∀ ad v,M ad=some v->w.cell? ad=some v):HI lN (fun _ _=>False) M [] w:=⟨hm,fun i o hi=>by simp at hi,fun i g hi=>by simp at hi,fun i j g hi=>by simp at hi,fun i g hi=>by simp at hi,fun i o hi=>by simp at hi⟩
theorem aF (hf:P.funcs[f]? = some fn) (hb:fn.body=some c) (hN:fn.ntmps=N) (hcf:jP P cf) (hent:∀ (av:Array Value) (W:World),(callFunc f av).run P W = .ok (.enter f av) W) (hfree:args.all AV.free=true) (hlen:args.length<=N) {r:AV}
  (h:∀ M0 w0,awp P cf (base0 M0 w0) N c (fun e X=>ends e (Em cf X fn.results.toList r)) ⟨tab (params 0 args),[]⟩):Does P f args (.imm r):=by
 refine ⟨hent,fun M w us hm ha=>calls_of_wp hf hb ?_⟩
 have hst:=start (S:=fun _=>False) (φ0:=fun _=>undef) (fx:=[]) (fn:=fn) hcf hN (H:=[]) (fun x hx=>H7 (List.all_eq_true.1 hfree x hx) _) hlen (Y6 hm) (fun i g hi=>by simp at hi) (Nat.le_refl _) rfl ha
 refine Code.wp_mono (fun e a' w' hq =>?_) (h M w _ w ⟨_,_,_,hst⟩)
 obtain ⟨X,h1,φ,β,M',hR⟩:=hq
 have key:Em cf X fn.results.toList r->a'.defers=[]/\∃ v,(results fn a'.tmps).run P w' = .ok v w'/\∃ u M',Ending.returned v = .returned u/\M.le M'/\(∀ ad v,M' ad=some v->w'.cell? ad=some v/\(M ad=some v\/w.heap.size<=ad.block))/\(Res.imm r).rel M' w w' u/\Below w.heap.size w w':=fun hr=>by
  obtain ⟨u,h2,h3⟩:=YF hR hr
  exact ⟨hR.defers,u,h2,u,M',rfl,hR.le,fun ad v e=>⟨hR.hi.mem ad v e,by
   rcases hR.new ad v e with h4 | h4 | h4
   ·exact .inl h4
   ·exact .inr h4
   ·exact h4.elim⟩,h3,hR.below.EN fun _ h=>h⟩
 cases e with
 | normal=>exact key h1
 | ret=>exact key h1
 | _=>exact h1.elim
def Oh (cf:Cfg) (X:St) (xs:List ResultVar) (fx:List Bool) (n:Nat) (r:AV) (Hout:List Ob):Prop:=∃ τ:List Nat,τ.Nodup/\picks X.H (fun k=>τ.getD k 0) τ Hout/\n<=τ.length/\(∀ k,k<fx.length->fx.getD k false=true->τ.getD k 0=k)/\(∀ o∈Hout,o.lt Hout.length)/\r.lt Hout.length /\
 (match xs with
 | [x]=>∃ v,nO cf X x v/\AV.tv v=r.map (Lf.ren fun k=>τ.getD k 0)
 | _=>∃ vs,iZ cf X xs vs/\AV.tup vs=r.map (Lf.ren fun k=>τ.getD k 0))
section
variable {b:Base} {φ:Nat->Value} {β:Nat->Nat->Prop} {M:Mem} {X:St} {a:Act} {w:World}
theorem Gv {τ:List Nat} (hnd:τ.Nodup) {k l:Nat} (hk:k<τ.length) (hl:l<τ.length) (e:τ[k]=τ[l]):k=l:=by
 rcases Nat.lt_trichotomy k l with h | h | h
 ·exact (List.pairwise_iff_getElem.1 hnd k l hk hl h e).elim
 ·exact h
 ·exact (List.pairwise_iff_getElem.1 hnd l k hl hk h e.symm).elim
theorem ac5 (h:RA P cf b N φ β M X a w) {fx:List Bool} {n:Nat} {r:AV} {Hout:List Ob} (hr:Oh cf X fn.results.toList fx n r Hout):∃ (u:Value) (τ:List Nat),(results fn a.tmps).run P w = .ok u w/\r.rel (fun k=>φ (τ.getD k 0)) M u/\HI (fun k=>φ (τ.getD k 0)) (fun k=>β (τ.getD k 0)) M Hout w/\r.lt Hout.length/\n<=Hout.length /\
  (∀ k,fx.getD k false=true->τ.getD k 0=k)/\∀ k,k<Hout.length->τ.getD k 0<X.H.length:=by
 obtain ⟨τ,hnd,hpk,hn,hfx,hwf,hrl,hr⟩:=hr
 obtain ⟨hl,hpk⟩:=wH hpk
 have hτ:∀ k,k<Hout.length->∃ o,X.H[τ.getD k 0]? = some (Ob.map (Lf.ren fun k=>τ.getD k 0) o)/\Hout[k]? = some o/\τ.getD k 0<X.H.length/\τ[k]? = some (τ.getD k 0):=fun k hk=>by
  obtain ⟨s,h1,h2⟩:=hpk k _ (List.getElem?_eq_getElem hk)
  have e:τ.getD k 0=s:=by rw [List.getD_eq_getElem?_getD,h1];rfl
  rw [← e] at h2 h1
  exact ⟨_,h2,List.getElem?_eq_getElem hk,(List.getElem?_eq_some_iff.1 h2).1,h1⟩
 have hm:∀ us,(fn.results.toList.mapM (Ew a.tmps)).run P w = .ok us w->(results fn a.tmps).run P w = .ok (if h:us.toArray.size=1 then us.toArray[0] else .tuple us.toArray) w:=fun us hu=>by
  have hE:results fn a.tmps=(do let vs ← fn.results.mapM (Ew a.tmps);pure (if h:vs.size=1 then vs[0] else .tuple vs)):=rfl
  rw [hE,← Array.toArray_toList (xs:=fn.results),List.mapM_toArray]
  simp only [Sem.run_bind,Sem.run_map,hu,Result.andThen_ok,Sem.run_pure]
 have hval:∃ u,(results fn a.tmps).run P w = .ok u w/\(r.map (Lf.ren fun k=>τ.getD k 0)).rel φ M u:=by
  split at hr
  ·rename_i x hx
   obtain ⟨v,h1,h2⟩:=hr
   obtain ⟨us,h4,h5,h6⟩:=wY (xs:=[x]) (vs:=[v]) h ⟨h1,trivial⟩
   match us,h5 with
   | [u],_ =>
    refine ⟨u,?_,by rw [← h2];exact h6 0 (by simp) (by simp)⟩
    rw [hm [u] (by rw [hx];exact h4)]
    simp
  ·rename_i hne
   obtain ⟨vs,h1,h2⟩:=hr
   obtain ⟨us,h4,h5,h6⟩:=wY h h1
   have hl:∀ {xs:List ResultVar} {vs:List TV},iZ cf X xs vs->xs.length=vs.length:=fun {xs}=>by
    induction xs with
    | nil=>intro vs h;cases vs with
     | nil=>rfl
     | cons _ _=>exact h.elim
    | cons x xs ih=>intro vs h;cases vs with
     | nil=>exact h.elim
     | cons v vs=>simp [ih h.2]
   have hus:us.length≠1:=fun e=>by
    have h7:=hl h1
    match hxs:fn.results.toList with
    | []=>rw [hxs] at h7;simp at h7;omega
    | [x]=>exact hne x hxs
    | _::_::_=>rw [hxs] at h7;simp at h7;omega
   refine ⟨.tuple us.toArray,?_,by rw [← h2];exact ⟨us,rfl,h5,h6⟩⟩
   rw [hm us h4]
   simp [hus]
 obtain ⟨u,h1,h2⟩:=hval
 have hinj:∀ k l,k<Hout.length->l<Hout.length->τ.getD k 0=τ.getD l 0->k=l:=fun k l hk hl' e=>by
  obtain ⟨_,_,_,_,e1⟩:=hτ k hk
  obtain ⟨_,_,_,_,e2⟩:=hτ l hl'
  rw [e,← e2] at e1
  have hkl:l<τ.length:=by omega
  have hkk:k<τ.length:=by omega
  rw [List.getElem?_eq_getElem hkk,List.getElem?_eq_getElem hkl,Option.some.injEq] at e1
  exact Gv hnd hkk hkl e1
 refine ⟨u,τ,h1,AV.dO.1 h2,⟨h.hi.mem,fun k o hk =>?_,fun k g hk hg =>?_,fun k l g hk hl' hg hg' =>?_,fun k g hk hg =>?_,fun k o hk=>hwf o (List.mem_of_getElem? hk)⟩,hrl,by omega,fun k hk =>?_,fun k hk=>by obtain ⟨_,_,_,e,_⟩:=hτ k hk;exact e⟩
 ·obtain ⟨o',e1,e2,_,_⟩:=hτ k (List.getElem?_eq_some_iff.1 hk).1
  rw [hk] at e2
  cases e2
  exact Ob.dO.1 (h.hi.ob _ _ e1)
 ·obtain ⟨_,_,_,e,_⟩:=hτ k hk
  exact h.hi.off _ g e hg
 ·obtain ⟨_,_,_,e,_⟩:=hτ k hk
  obtain ⟨_,_,_,e2,_⟩:=hτ l hl'
  exact hinj k l hk hl' (h.hi.inj _ _ g e e2 hg hg')
 ·obtain ⟨_,_,_,e,_⟩:=hτ k hk
  exact h.hi.lt _ g e hg
 ·rcases Nat.lt_or_ge k fx.length with hlt | hge
  ·exact hfx k hlt hk
  ·rw [List.getD_eq_getElem?_getD,List.getElem?_eq_none hge] at hk
   cases hk
end
theorem acs {fx:List Bool} {Hin Hout:List Ob} (hf:P.funcs[f]? = some fn) (hb:fn.body=some c) (hN:fn.ntmps=N) (hcf:jP P cf) (hent:∀ (av:Array Value) (W:World),(callFunc f av).run P W = .ok (.enter f av) W) (hargs:∀ x∈args,x.lt Hin.length) (hlen:args.length<=N) (hfx:fx.length<=Hin.length) {r:AV}
  (h:∀ M0 w0 S φ0,awp P cf ⟨M0,w0,S,φ0,fx,[]⟩ N c (fun e X=>ends e (Oh cf X fn.results.toList fx Hin.length r Hout)) ⟨tab (params 0 args),Hin⟩):bP P f args fx Hin r Hout:=by
 refine ⟨hent,fun φ β M w us hH ha=>calls_of_wp hf hb ?_⟩
 have hst:=start (S:=blks Hin β) (fx:=fx) (fn:=fn) hcf hN hargs hlen hH (fun i g hi hg=>⟨i,hi,hg⟩) hfx rfl ha
 refine Code.wp_mono (fun e a' w' hq =>?_) (h M w _ _ _ w ⟨_,_,_,hst⟩)
 obtain ⟨X,h1,φ',β',M',hR⟩:=hq
 have key:Oh cf X fn.results.toList fx Hin.length r Hout->a'.defers=[]/\∃ v,(results fn a'.tmps).run P w' = .ok v w'/\∃ u φ' β' M',Ending.returned v = .returned u/\M.le M'/\(∀ ad v,M' ad=some v->M ad=some v\/w.heap.size<=ad.block\/blks Hin β ad.block)/\HI φ' β' M' Hout w'/\r.rel φ' M' u/\r.lt Hout.length/\Hin.length<=Hout.length /\
   (∀ i,fx.getD i false=true->φ' i=φ i)/\(∀ i g,i<Hout.length->β' i g->w.heap.size<=g\/blks Hin β g)/\Kept (blks Hin β) w w':=fun hr=>by
  obtain ⟨u,τ,h2,h3,h4,h5,h6,h7,h8⟩:=ac5 hR hr
  exact ⟨hR.defers,u,h2,u,_,_,M',rfl,hR.le,hR.new,h4,h3,h5,h6,fun i hi=>by rw [h7 i hi];exact hR.fix.2 i hi,fun i g hi hg=>hR.own _ g (h8 i hi) hg,hR.below⟩
 cases e with
 | normal=>exact key h1
 | ret=>exact key h1
 | _=>exact h1.elim
end
theorem tH (s:Nat) (v:Bool×AV) (L:List (Nat×Bool×AV)) (t:Nat):tab ((s,v)::L) t=if t=s then v else tab L t:=by
 show (bif Nat.beq t s then v else tab L t)=_
 by_cases h:t=s
 ·subst h;simp
 ·have:Nat.beq t s=false:=by rw [Bool.eq_false_iff];exact fun k=>h (Nat.eq_of_beq_eq_true k)
  rw [this,if_neg h];rfl
theorem QU (t:Nat):tab [] t=(true,.und):=rfl
theorem KQ (T:Tm) (t:Nat):look T (.tmp t)=T t:=rfl
theorem DK (T:Tm) (v:Value):look T (.const v)=(true,.val v):=rfl
theorem Gp (T:Tm) (f:Nat):look T (.func f)=(true,.clo f []):=rfl
theorem O6 {m n:Nat}:(Nat.blt m n=true)=(m<n):=by simp
theorem OW (b c:Bool):(b && (c == true))=(b && c):=by cases c<;>rfl
theorem OV (b c:Bool):(b && (c == false))=(b && !c):=by cases c<;>rfl
section
variable {P:Program} {cf:Cfg} {b:Base} {N:Nat} {φ:Nat->Value} {β:Nat->Nat->Prop} {M:Mem} {X:St} {a:Act} {w:World} {Q:Exit->St->Prop}
def Um (P:Program) (cf:Cfg) (H:List Ob) (N:Nat) (ops:Array Oper) (K:Tm->Prop) (o:Oper) (T:Tm):Prop :=
 o.dst.all (Nat.blt · N)=true/\match o.op with
 | .call c=>(match c.callee with
  | .value _=>(guardOf ops o T).1/\∃ r,lI P H T (guardOf ops o T).2 c r/\K (T.put o.dst ((guardOf ops o T).2,r))
  | _=>(guardOf ops o T).1/\(qev cf H T (guardOf ops o T).2 o.op).1/\K (T.put o.dst ((guardOf ops o T).2,(qev cf H T (guardOf ops o T).2 o.op).2)))
 | _=>(guardOf ops o T).1/\(qev cf H T (guardOf ops o T).2 o.op).1/\K (T.put o.dst ((guardOf ops o T).2,(qev cf H T (guardOf ops o T).2 o.op).2))
def dR (P:Program) (cf:Cfg) (H:List Ob) (N:Nat) (ops:Array Oper) (Q:Tm->Prop):List Oper->Tm->Prop
 | [],T=>Q T
 | o::l,T=>Um P cf H N ops (dR P cf H N ops Q l) o T
theorem CV {H:List Ob} {ops:Array Oper} {Q:Tm->Prop}:∀ (l:List Oper) (T:Tm),dR P cf H N ops Q l T->dW P cf H N ops Q l T
 | [],T,h=>h
 | o::l,T,h=>by
  obtain ⟨h1,h2⟩:=h
  have hq:((guardOf ops o T).1/\(qev cf H T (guardOf ops o T).2 o.op).1/\dR P cf H N ops Q l (T.put o.dst ((guardOf ops o T).2,(qev cf H T (guardOf ops o T).2 o.op).2)))->dW P cf H N ops Q (o::l) T:=fun ⟨g1,g2,g3⟩ =>
   ⟨_,⟨h1,g1,rfl,.inr ⟨g2,rfl⟩⟩,CV l _ g3⟩
  split at h2
  ·rename_i c hc
   split at h2
   ·obtain ⟨g1,r,g2,g3⟩:=h2
    exact ⟨((guardOf ops o T).2,r),⟨h1,g1,rfl,.inl ⟨c,hc,g2⟩⟩,CV l _ g3⟩
   ·exact hq h2
  ·exact hq h2
theorem XA {id:Nat} {l:List Oper} (hm:P.follows .mixedOrders=true) (hB:Region.lexB .any l.toArray=true) (h:dR P cf X.H N l.toArray (fun T=>Q .normal ⟨T,X.H⟩) l X.T):awp P cf b N (.region id l.toArray true) Q X :=
 TK hm hB (CV _ _ h)
def leK (B:List (Nat×Bool×AV)) (H':List Ob) (X:St):Prop:=(∀ p∈B,X.T p.1=p.2\/p.2=(true,.und))/\H'=X.H
def leT (n:Nat) (B:List (Nat×Bool×AV)) (H':List Ob) (X:St):Prop:=(∀ p∈B,X.T p.1=p.2\/p.2=(true,.und))/\H'=X.H.take n/\n<=X.H.length/\(∀ p∈B,p.2.2.leaves.all (Lf.ltB n)=true)/\∀ o∈H',o.lt n
theorem Je:∀ (B:List (Nat×Bool×AV)) (t:Nat),(∃ p∈B,p.1=t/\tab B t=p.2)\/tab B t=(true,.und)
 | [],t => .inr rfl
 | p::B,t=>by
  by_cases h:t=p.1
  ·exact .inl ⟨p,List.mem_cons_self,h.symm,by show (bif Nat.beq t p.1 then p.2 else tab B t)=_;rw [h];simp⟩
  ·have hb:Nat.beq t p.1=false:=by rw [Bool.eq_false_iff];exact fun k=>h (Nat.eq_of_beq_eq_true k)
   rcases Je B t with ⟨q,h1,h2,h3⟩ | h1
   ·exact .inl ⟨q,List.mem_cons_of_mem _ h1,h2,by show (bif Nat.beq t p.1 then p.2 else tab B t)=_;rw [hb];exact h3⟩
   ·exact .inr (by show (bif Nat.beq t p.1 then p.2 else tab B t)=_;rw [hb];exact h1)
theorem keys_le {B:List (Nat×Bool×AV)} (h:∀ p∈B,X.T p.1=p.2\/p.2=(true,.und)) (t:Nat):tab B t=X.T t\/tab B t=(true,.und):=by
 rcases Je B t with ⟨p,h1,h2,h3⟩ | h1
 ·rcases h p h1 with h4 | h4
  ·exact .inl (by rw [h3,← h4,h2])
  ·exact .inr (by rw [h3,h4])
 ·exact .inr h1
theorem R.leK {B:List (Nat×Bool×AV)} {H':List Ob} (hl:leK B H' X) (h:R P cf b N X a w):R P cf b N ⟨tab B,H'⟩ a w:=by
 obtain ⟨φ,β,M,h⟩:=h
 obtain ⟨h1,rfl⟩:=hl
 refine ⟨φ,β,M,h.cf,h.le,h.new,h.hi,fun t =>?_,fun t =>?_,h.own,h.size,h.below,h.fix,h.defers⟩
 ·show ((tab B t).1=true->(tab B t).2.rel φ M _)/\((tab B t).1=false->_)
  rcases keys_le h1 t with e | e
  ·rw [e];exact h.t t
  ·rw [e];exact ⟨fun _=>trivial,fun hf=>by cases hf⟩
 ·show (tab B t).2.lt _
  rcases keys_le h1 t with e | e
  ·rw [e];exact h.lt t
  ·rw [e];exact bM
theorem leT.le {n:Nat} {B:List (Nat×Bool×AV)} {H':List Ob} {fx:List Bool} (hfx:fx.length<=n) (hl:leT n B H' X):X.le fx ⟨tab B,H'⟩:=by
 obtain ⟨h1,h2,h0,h3,h4⟩:=hl
 have hn:H'.length=n:=by rw [h2,List.length_take];omega
 refine ⟨fun t=>keys_le h1 t,n,by show _<=H'.length;omega,h2,fun t =>?_,fun i o hi =>?_⟩
 ·show (tab B t).2.lt H'.length
  rw [hn]
  rcases Je B t with ⟨p,h5,h6,h7⟩ | e
  ·rw [h7];exact fun y hy=>List.all_eq_true.1 (h3 p h5) y hy
  ·rw [e];exact bM
 ·rw [hn]
  exact h4 o (List.mem_of_getElem? hi)
theorem aT {n:Nat} {B:List (Nat×Bool×AV)} {H':List Ob} (hK:leK B H' ⟨X.T,X.H.take n⟩) (hn:Nat.ble n X.H.length=true) (hB:B.all (fun p=>p.2.2.leaves.all (Lf.ltB n))=true) (hH:H'.all (fun o=>match o with | .box cs=>cs.all (Lf.ltB n) | .hole _ _ _ _ x=>x.ltB n | .cut _ _ _ _ x=>x.ltB n | _=>true)=true):leT n B H' X :=
 ⟨hK.1,hK.2,Nat.le_of_ble_eq_true hn,fun p hp=>List.all_eq_true.1 hB p hp,fun o ho=>by
  have:=List.all_eq_true.1 hH o ho
  cases o with
  | box cs=>exact fun y hy=>List.all_eq_true.1 this y hy
  | hole e es c k x=>exact this
  | cut e e2 c k x=>exact this
  | _=>trivial⟩
def kept (T:Tm) (ss:List Nat):List (Nat×Bool×AV):=ss.map fun s=>(s,T s)
theorem aA {c:Code} {α:Type} (chg:α->List (Nat×Bool×AV)) (ss:List Nat) (H:α->List Ob) (I:α->Prop) (μ:α->Nat) (k0:α) (h0:leK (chg k0++kept X.T ss) (H k0) X) (hI:I k0)
  (hr:∀ k,I k->awp P cf b N c (nS (fun X'=>∃ k',I k'/\μ k'<μ k/\(leK (chg k'++kept X.T ss) (H k') X'\/∃ n,b.fx.length<=n/\leT n (chg k'++kept X.T ss) (H k') X')) Q) ⟨tab (chg k++kept X.T ss),H k⟩):awp P cf b N (.loop c) Q X:=fun a w hR=>by
 have key:∀ n k a w,μ k<n->I k->R P cf b N ⟨tab (chg k++kept X.T ss),H k⟩ a w->Code.rounds P c (fun e a' w'=>∃ X',Q e X'/\R P cf b N X' a' w') n a w:=by
  intro n
  induction n with
  | zero=>intro k a w hn;omega
  | succ n ih =>
   intro k a w hn hk hR
   rw [rounds_succ]
   refine Code.wp_mono (fun e a' w' hq =>?_) (hr k hk a w hR)
   obtain ⟨X',h1,h2⟩:=hq
   cases e with
   | normal =>
    obtain ⟨k',h4,h5,h3⟩:=h1
    refine ih k' a' w' (by omega) h4 ?_
    rcases h3 with h3 | ⟨m,hm,h3⟩
    ·exact h2.leK h3
    ·exact h2.le (h3.le hm)
   | _=>exact ⟨X',h1,h2⟩
 exact wp_loop_rounds (μ k0+1) (key _ k0 a w (Nat.lt_succ_self _) hI (hR.leK h0))
theorem jI {p:Nat×Bool×AV} {B:List (Nat×Bool×AV)} {H':List Ob} (h:X.T p.1=p.2) (hB:leK B H' X):leK (p::B) H' X :=
 ⟨fun q hq=>by rcases List.mem_cons.1 hq with rfl | hq;exact .inl h;exact hB.1 q hq,hB.2⟩
theorem mF {H':List Ob} (h:H'=X.H):leK [] H' X:=⟨fun _ h=>by simp at h,h⟩
end
theorem kM {a b:Int} (h:a=b):AV.int a=AV.int b:=by rw [h]
theorem PO (i:Nat) (c:Cn) (L:List (Nat×Bool×AV)):(tab L).map (Lf.frz i c)=tab (L.map fun p=>(p.1,p.2.1,p.2.2.map (Lf.frz i c))):=yx _ rfl L
theorem yt (i:Nat) (L:List (Nat×Bool×AV)):(tab L).map (Lf.kill i)=tab (L.map fun p=>(p.1,p.2.1,p.2.2.map (Lf.kill i))):=yx _ rfl L
theorem yh (T:Tm):kept T []=[]:=rfl
theorem uq (T:Tm) (s:Nat) (ss:List Nat):kept T (s::ss)=(s,T s)::kept T ss:=rfl
theorem Lp (cf:Cfg) (H:List Ob) (T:Tm) (g:Bool) (op:UnOp) (t:Nat) (x:Operand):qev cf H T g (.unOp op t x)=match op,look T x with
  | .not,(gx,.tv (.one (.b (.val (.bool v)))))=>(need g gx,.bool (!v))
  | .neg,(gx,.tv (.one (.b (.val (.int .i64 n)))))=>(need g gx/\(g=true->I64 (-n)),.int (-n))
  | _,_=>(False,.und):=rfl
theorem yL (cf:Cfg) (H:List Ob) (T:Tm) (g:Bool) (fn:Fn) (first cap:Array Operand):qev cf H T g (.makeFunc fn first cap)=match fn,first.toList with
  | .func f,[]=>((∀ x∈cap.toList,need g (look T x).1/\∃ l,(look T x).2 = .tv (.one l)),.clo f (cap.toList.map fun x=>match (look T x).2 with | .tv (.one l)=>l | _ => .und))
  | .func f,[x]=>match cap.toList,look T x with
   | [],(gx,.tv (.agg ls))=>match xZ ls with
    | some ms=>(need g gx,.tv (.one (.b (.bm f ms))))
    | none=>(False,.und)
   | _,_=>(False,.und)
  | _,_=>(False,.und):=rfl
abbrev lim:Nat:=9223372036854775807
def Cn.fits:Cn->Prop
 | .ints xs=>xs.length<=lim
 | .ii xs=>xs.length<=lim/\∀ x∈xs,x.length<=lim
 | .iii xs=>xs.length<=lim/\∀ x∈xs,x.length<=lim/\∀ y∈x,y.length<=lim
 | .k n xs=>xs.length<=lim/\∀ x∈xs,x.length=n
 | .ki n xs=>xs.length<=lim/\∀ x∈xs,x.length<=lim/\∀ y∈x,y.length=n
 | .kii n xs=>xs.length<=lim/\∀ x∈xs,x.length<=lim/\∀ y∈x,y.length<=lim/\∀ z∈y,z.length=n
 | .bo xs=>xs.length<=lim
 | .bbo xs=>xs.length<=lim/\∀ x∈xs,x.length<=lim
 | .nl n=>n<=lim
 | .wk xs=>xs.length<=lim
def Lf.fits:Lf->Prop
 | .b (.sl c)=>c.fits
 | .b (.raw c)=>c.length<=lim
 | _=>True
def Lf.qA:List Lf->Prop
 | []=>True
 | x::xs=>x.fits/\qA xs
theorem ShM.le {M:Mem} {u:Value} {n:Nat} {vs:List Value} (h:ShM M u n vs):n<=lim:=by
 obtain ⟨A,c,_,h1,h2,_⟩:=h
 exact Nat.le_trans h1 h2
theorem SO.le {α:Type} {R:Mem->Value->List α->Prop} {M:Mem} {u:Value} {xs:List (List α)} (h:SO R M u xs):xs.length<=lim:=by
 obtain ⟨vs,h1,_⟩:=h
 exact h1.le
theorem SO.mem {α:Type} {R:Mem->Value->List α->Prop} {M:Mem} {u:Value} {xs:List (List α)} (h:SO R M u xs) {x:List α} (hx:x∈xs):∃ u',R M u' x:=by
 obtain ⟨vs,h1,h2⟩:=h
 obtain ⟨j,hj,rfl⟩:=List.mem_iff_getElem.1 hx
 obtain ⟨u',_,h3⟩:=h2.2 j 0 hj (by omega)
 simp only [List.getD_eq_getElem?_getD,List.getElem?_eq_getElem hj,Option.getD_some] at h3
 exact ⟨u',h3⟩
theorem SI.le {M:Mem} {u:Value} {xs:List Int} (h:SI M u xs):xs.length<=lim:=by
 obtain ⟨vs,h1,_⟩:=h
 exact h1.le
theorem SK.le {n:Nat} {M:Mem} {u:Value} {xs:List (List Int)} (h:SK n M u xs):xs.length<=lim/\∀ x∈xs,x.length=n:=by
 obtain ⟨h0,vs,h1,_⟩:=h
 exact ⟨h1.le,h0⟩
theorem SII.le {M:Mem} {u:Value} {xs:List (List Int)} (h:SII M u xs):xs.length<=lim/\∀ x∈xs,x.length<=lim:=⟨SO.le h,fun x hx=>by obtain ⟨u',h1⟩:=SO.mem h hx;exact h1.le⟩
theorem SKI.le {n:Nat} {M:Mem} {u:Value} {xs:List (List (List Int))} (h:SKI n M u xs):xs.length<=lim/\∀ x∈xs,x.length<=lim/\∀ y∈x,y.length=n:=⟨SO.le h,fun x hx=>by obtain ⟨u',h1⟩:=SO.mem h hx;exact h1.le⟩
theorem SBo.le {M:Mem} {u:Value} {xs:List Bool} (h:SBo M u xs):xs.length<=lim:=by
 obtain ⟨vs,h1,_⟩:=h
 exact h1.le
theorem Cn.tZ {M:Mem} {c:Cn} {u:Value} (h:(B.sl c).rel M u):c.fits:=by
 cases c with
 | ints xs=>exact SI.le h
 | ii xs=>exact SII.le h
 | iii xs=>exact ⟨SO.le (show Zj M u xs from h),fun x hx=>by obtain ⟨u',h1⟩:=SO.mem (show Zj M u xs from h) hx;exact SII.le h1⟩
 | k n xs=>exact SK.le h
 | ki n xs=>exact SKI.le h
 | kii n xs=>exact ⟨SO.le (show Zk n M u xs from h),fun x hx=>by obtain ⟨u',h1⟩:=SO.mem (show Zk n M u xs from h) hx;exact SKI.le h1⟩
 | bo xs=>exact SBo.le h
 | bbo xs=>exact ⟨SO.le (show SO SBo M u xs from h),fun x hx=>by obtain ⟨u',h1⟩:=SO.mem (show SO SBo M u xs from h) hx;exact SBo.le h1⟩
 | nl n=>obtain ⟨vs,h1,_⟩:=(show SNl M u n from h);exact h1.le
 | wk xs=>obtain ⟨vs,h1,_⟩:=(show SWk M u xs from h);exact h1.le
theorem Lf.tZ {φ:Nat->Value} {M:Mem} {x:Lf} {u:Value} (h:x.rel φ M u):x.fits:=by
 cases x with
 | b x=>cases x with
  | val v=>trivial
  | sl c=>exact Cn.tZ h
  | raw c=>obtain ⟨vs,h1,_⟩:=h;exact h1.le
  | fn f c=>trivial
  | bm f c=>trivial
 | _=>trivial
theorem Lf.C9 {φ:Nat->Value} {M:Mem}:∀ {xs:List Lf},(∀ x∈xs,∃ u,x.rel φ M u)->Lf.qA xs
 | [],_=>trivial
 | x::xs,h=>⟨by obtain ⟨u,hu⟩:=h x List.mem_cons_self;exact Lf.tZ hu,C9 fun y hy=>h y (List.mem_cons_of_mem _ hy)⟩
def AV.fits (v:AV):Prop:=match v with
 | .tv (.one x)=>x.fits
 | .tv (.agg xs)=>Lf.qA xs
 | _=>True
theorem AV.tZ {φ:Nat->Value} {M:Mem} {v:AV} {u:Value} (h:v.rel φ M u):v.fits:=by
 cases v with
 | tv x=>cases x with
  | one x=>exact Lf.tZ h
  | agg xs =>
   obtain ⟨us,_,h1,h2⟩:=h
   exact Lf.C9 fun x hx=>by
    obtain ⟨j,hj,rfl⟩:=List.mem_iff_getElem.1 hx
    exact ⟨us[j],h2 j hj (by omega)⟩
 | clo f xs=>trivial
 | tup xs=>trivial
theorem bY {P:Program} {cf:Cfg} {b:Base} {N:Nat} {X:St} {Q:Exit->St->Prop} {c:Code} (t:Nat) (ht:(X.T t).1=true) (h:(X.T t).2.fits->awp P cf b N c Q X):awp P cf b N c Q X:=fun a w hR=>by
 refine h ?_ a w hR
 obtain ⟨φ,β,M,h⟩:=hR
 exact AV.tZ ((h.t t).1 ht)
def qJ (n:Nat) (W:List Nat) (i:Nat):Bool:=decide (i<n) && !(W.contains i)
def RY (n:Nat) (W:List Nat):Lf->Bool
 | .own i=>qJ n W i
 | _=>true
def bV (n:Nat) (W:List Nat) (H:List Ob):Lf->Bool
 | .own i=>qJ n W i
 | .oa i _ _ _=>qJ n W i
 | .ptr i _=>qJ n W i && (match H[i]? with
  | some (.box cs)=>cs.all (RY n W)
  | _=>true)
 | _=>true
def jy (n:Nat) (W:List Nat) (H:List Ob) (x:AV):Bool:=x.leaves.all (bV n W H)
def bU (n:Nat) (W:List Nat) (H:List Ob) (T:Tm):Op->Bool
 | .move _ | .assign _ | .nilCheck _ | .fieldAddr _ _ _ | .unOp _ _ _ | .extract _ _ | .pick _ _ _ | .makeFunc _ _ _=>true
 | .field _ _ _=>true
 | .binOp _ _ x _ _=>jy n W H (look T x).2
 | .slice _ _ _ _ _=>true
 | .load _ x=>jy n W [] (look T x).2
 | .indexAddr _ x y=>jy n W H (look T x).2 && jy n W H (look T y).2
 | .build _ parts=>parts.toList.all fun p=>jy n W H (look T p.2).2
 | .call c=>(match c.callee with
  | .value x=>jy n W H (look T x).2
  | _=>true) && c.args.toList.all fun x=>jy n W H (look T x).2
 | _=>false
def agree (n:Nat) (W:List Nat) (H H':List Ob):Prop:=n<=H.length/\n<=H'.length/\∀ j,qJ n W j=true->H'[j]? = H[j]?
section
variable {P:Program} {cf:Cfg} {n:Nat} {W:List Nat} {H H':List Ob} {T:Tm} {g:Bool}
theorem Tz (ha:agree n W H H') {H0:List Ob} {l:Lf} (h:bV n W H0 l=true):adr H' l=adr H l:=by
 cases l<;>simp only [bV,Bool.and_eq_true] at h<;>simp only [adr]
 ·rw [ha.2.2 _ h.1]
 ·rw [ha.2.2 _ h]
theorem Vf (ha:agree n W H H') {v:AV} (h:jy n W H v=true):lenOf H' v=lenOf H v:=by
 cases v with
 | tv x=>cases x with
  | one x =>
   cases x with
   | own i =>
    have:qJ n W i=true:=by simpa [jy,AV.leaves,TV.leaves,bV] using h
    simp only [lenOf]
    rw [ha.2.2 _ this]
   | b y=>cases y with
    | sl c=>rfl
    | raw c=>rfl
    | fn f c=>rfl
    | bm f c=>rfl
    | val v=>cases v<;>rfl
   | _=>rfl
  | agg xs=>rfl
 | _=>rfl
theorem OI (ha:agree n W H H') {l:Lf} (h:RY n W l=true):qg H' l=qg H l:=by
 cases l<;>simp only [RY] at h<;>simp only [qg]
 rw [ha.2.2 _ h]
theorem qh (ha:agree n W H H') {l:Lf} (h:bV n W H l=true):view H' l=view H l:=by
 cases l<;>simp only [bV,Bool.and_eq_true] at h<;>simp only [view]
 ·rw [ha.2.2 _ h]
 ·obtain ⟨h1,h2⟩:=h
  rw [ha.2.2 _ h1]
  split
  ·rename_i cs e
   rw [e] at h2
   rw [mapM_congr fun x hx=>OI ha (List.all_eq_true.1 h2 x hx)]
  ·rfl
theorem qQ (ha:agree n W H H') {v:AV} (h:jy n W H v=true):fQ H' v=fQ H v:=by
 have hL:∀ xs:List Lf,(∀ x∈xs,bV n W H x=true)->xs.mapM (view H')=xs.mapM (view H):=fun xs hx=>mapM_congr fun x h=>qh ha (hx x h)
 simp only [jy,List.all_eq_true] at h
 cases v with
 | tv x=>cases x with
  | one x=>simp only [fQ];rw [qh ha (h x (by simp [AV.leaves,TV.leaves]))]
  | agg xs=>simp only [fQ];rw [hL xs h]
 | clo f xs=>simp only [fQ];rw [hL xs h]
 | tup xs=>rfl
theorem uD (ha:agree n W H H') {l:Lf} (h:bV n W H l=true):Lf.dU H' l=Lf.dU H l:=by
 cases l<;>simp only [bV,Bool.and_eq_true] at h<;>simp only [Lf.dU]
 ·rename_i x
  cases x<;>rfl
 ·rw [ha.2.2 _ h]
theorem IB {l:Lf} (h:jy n W H (.tv (.one l))=true):bV n W H l=true:=by simpa [jy,AV.leaves,TV.leaves] using h
theorem Ws (ha:agree n W H H') {op:Op} (h:bU n W H T op=true):qev cf H' T g op=qev cf H T g op:=by
 cases op<;>simp only [bU,Bool.and_eq_true] at h<;>first | (cases h;done) | (simp only [qev];done) | skip
 case load t x =>
  simp only [qev]
  split
  ·rename_i gx l e
   rw [e] at h
   rw [Tz ha (IB h)]
  ·rfl
 case slice t x lo hi mx=>cases mx<;>rfl
 case binOp op t x y t' =>
  simp only [qev]
  split
  all_goals first | rfl | skip
  rename_i gx i gy e1 e2
  rw [e1] at h
  rw [ha.2.2 i (by simpa [bV] using IB h)]
 case indexAddr t x ix =>
  simp only [qev]
  split
  ·rfl
  ·rename_i gx i gi n' e1 e2
   rw [e1] at h
   rw [ha.2.2 i (by simpa [bV] using IB h.1)]
  ·rfl
  ·rfl
 case build t parts =>
  simp only [qev]
  split
  ·rename_i ps hps
   have hc:∀ p∈ps,p.2.2.2.cs.all (Lf.dU H')=p.2.2.2.cs.all (Lf.dU H):=fun p hp=>by
    obtain ⟨q,h3,h4⟩:=mapM_mem hps p hp
    have h5:=List.all_eq_true.1 h q h3
    unfold sV at h4
    split at h4
    ·rename_i gx v hv
     rw [hv] at h5
     split at h4
     ·cases h4
      rw [Bool.eq_iff_iff,List.all_eq_true,List.all_eq_true]
      have h6:∀ x∈v.cs,bV n W H x=true:=fun x hx=>List.all_eq_true.1 h5 x (by cases v<;>exact hx)
      exact ⟨fun k x hx=>by rw [← uD ha (h6 x hx)];exact k x hx,fun k x hx=>by rw [uD ha (h6 x hx)];exact k x hx⟩
     ·cases h4
    ·cases h4
   congr 2
   apply propext
   exact ⟨fun k p hp=>by rw [← hc p hp];exact k p hp,fun k p hp=>by rw [hc p hp];exact k p hp⟩
  ·rfl
 case call c =>
  obtain ⟨cl,⟨as⟩,⟨ts⟩⟩:=c
  simp only [qev]
  split
  ·rename_i x t
   have h2:jy n W H (look T x).2=true:=by simpa using h
   split
   ·rename_i gx v e hx hty
    rw [hx] at h2
    rw [Vf ha h2]
   ·rfl
  ·rfl
  ·rfl
  ·rfl
theorem JF (ha:agree n W H H') {c:Call} {r:AV} (h:bU n W H T (.call c)=true) (k:lI P H T g c r):lI P H' T g c r:=by
 simp only [bU,Bool.and_eq_true,List.all_eq_true] at h
 rcases k with ⟨gc,f,xs,vs,h1,h2,h3,h4,h5,h6⟩ | k
 rotate_left
 ·refine .inr ?_
  split at k
  ·rename_i gc f ms e
   obtain ⟨h2,h3,vs,h4,h5⟩:=k
   exact ⟨h2,h3,vs,by rw [mapM_congr fun x hx=>qQ ha (h.2 x hx)];exact h4,h5⟩
  ·exact k
 refine .inl ⟨gc,f,xs,vs,h1,h2,h3,?_,h5,h6⟩
 have hxs:∀ x∈xs,bV n W H x=true:=fun x hx=>by
  simp only [bQ] at h1
  split at h1
  ·rename_i x' hc
   rw [hc] at h
   split at h1
   ·rename_i f' xs' e
    simp only [Option.some.injEq,Prod.mk.injEq] at h1
    obtain ⟨_,e1,e2⟩:=h1
    rw [e1,e2] at e
    exact qp e _ (fun _ _=>rfl) h.1 x hx
   ·cases h1
  ·cases h1
 rw [← h4]
 unfold jF
 rw [mapM_congr fun x hx=>qQ ha (h.2 x hx),mapM_congr fun x hx=>qh ha (hxs x hx)]
theorem pR {N:Nat} {ops:Array Oper} {o:Oper} {v:Bool×AV} (ha:agree n W H H') (h:bU n W H T o.op=true) (k:oN P cf H N ops o T v):oN P cf H' N ops o T v:=by
 obtain ⟨h1,h2,h3,h4⟩:=k
 refine ⟨h1,h2,h3,?_⟩
 rcases h4 with ⟨c,hc,h5⟩ | ⟨h5,h6⟩
 ·rw [hc] at h
  exact .inl ⟨c,hc,JF ha h h5⟩
 ·rw [← Ws ha h] at h5 h6
  exact .inr ⟨h5,h6⟩
end
def iQ (o:Oper):Bool:=match o.op with
 | .alloc _=>true
 | .store _ _ _=>true
 | .buildSlice _ _ _=>true
 | .call c=>(match c.callee with
  | .builtin .append=>true
  | _=>false)
 | _=>false
def Eff (P:Program) (cf:Cfg) (b:Base) (N:Nat) (o:Oper) (T:Tm) (H H1:List Ob) (v:Bool×AV):Prop:=o.guard=none/\∀ φ β M a w K Q,RA P cf b N φ β M ⟨T,H⟩ a w->(∀ φ' β' M' a' w',RA P cf b N φ' β' M' ⟨T.put o.dst v,H1⟩ a' w'->K a' w')->o.wp P a w K Q
def jJ (P:Program) (cf:Cfg) (b:Base) (N:Nat) (H H1:List Ob) (o:Oper) (T:Tm) (v:Bool×AV):Prop:=∀ T',(∀ x∈o.op.operands,look T' x=look T x)->Eff P cf b N o T' H H1 v
theorem KU {P:Program} {cf:Cfg} {b:Base} {N:Nat} {H H1:List Ob} {o:Oper} {T T':Tm} {v:Bool×AV} (h:∀ x∈o.op.operands,look T' x=look T x) (k:jJ P cf b N H H1 o T v):jJ P cf b N H H1 o T' v:=fun T2 h2=>k T2 fun x hx=>(h2 x hx).trans (h x hx)
section
variable {P:Program} {cf:Cfg} {b:Base} {N:Nat} {φ:Nat->Value} {β:Nat->Nat->Prop} {M:Mem} {T:Tm} {H:List Ob} {a:Act} {w w':World} {o:Oper}
theorem FN {t:Nat} (ho:o.op = .alloc t) (hg:o.guard=none) (hd:o.dst.all (Nat.blt · N)=true) (hz:cf.sz t≠0):jJ P cf b N H (H++[.box ((cf.zero t).map fun v => .b (.val v))]) o T (true,.lf (.ptr H.length 0)):=fun T' _ =>
 ⟨hg,fun φ β M a w K Q hR hK=>JK hR hd ho hz fun φ' β' a' w' hR'=>hK _ _ _ _ _ hR'⟩
theorem FP {t:Nat} {x y:Operand} {i off:Nat} {cs:List Lf} {u:TV} (ho:o.op = .store t x y) (hg:o.guard=none) (hd:o.dst=none) (hz:cf.sz t≠0) (hx:look T x=(true,.lf (.ptr i off))) (hy:look T y=(true,.tv u)) (hi:H[i]? = some (.box cs)) (hone:u.dU H=true) (hcs:u.cs.length=cf.sz t) (hb:off+u.cs.length<=cs.length) (v:Bool×AV):jJ P cf b N H (H.set i (.box (splice cs off u.cs))) o T v:=fun T' hT=>by
 rw [ho] at hT
 simp only [Op.operands] at hT
 refine ⟨hg,fun φ β M a w K Q hR hK =>?_⟩
 obtain ⟨k1,k2⟩:=CO hone
 refine mg hR hd ho hz ((hT x (by simp)).trans hx) hi ((hT y (by simp)).trans hy) k1 k2 hone hcs hb fun a' w' hR'=>hK φ β M a' w' ?_
 rw [hd]
 exact hR'
theorem uS {t:Nat} {x y:Operand} {i wd j off e:Nat} {c c':Cn} {u:TV} (ho:o.op = .store t x y) (hg:o.guard=none) (hd:o.dst=none) (hz:cf.sz t≠0) (hx:look T x=(true,.lf (.oa i wd j off))) (hy:look T y=(true,.tv u)) (hi:H[i]? = some (.row e c)) (hp:c.put j off u=some c') (hone:u.dU H=true) (hcs:u.cs.length=cf.sz t) (hw:wd=c.w) (hj:j<c.len) (hb:off+u.cs.length<=c.w) (v:Bool×AV):jJ P cf b N H (H.set i (.row e c')) o T v:=fun T' hT=>by
 rw [ho] at hT
 simp only [Op.operands] at hT
 refine ⟨hg,fun φ β M a w K Q hR hK =>?_⟩
 refine xI hR hd ho hz ((hT x (by simp)).trans hx) hi ((hT y (by simp)).trans hy) hone hcs hw hj hb hp fun a' w' hR'=>hK φ β M a' w' ?_
 rw [hd]
 exact hR'
theorem JU {t e:Nat} {c:Cn} (ho:o.op = .buildSlice t 0 #[]) (hg:o.guard=none) (hd:o.dst.all (Nat.blt · N)=true) (ht:cf.ty t = .slice e) (hz:cf.sz e≠0) (hc:emp cf e=some c):jJ P cf b N H (H++[.row e c]) o T (true,.lf (.own H.length)):=fun T' _ =>
 ⟨hg,fun φ β M a w K Q hR hK=>Ph hR hd ho ht hz hc fun φ' β' a' w' hR'=>hK _ _ _ _ _ hR'⟩
theorem PE {t n e:Nat} {parts:Array (Nat×Operand)} {vs:List TV} {c:Cn} (ho:o.op = .buildSlice t n parts) (hg:o.guard=none) (hd:o.dst.all (Nat.blt · N)=true) (ht:cf.ty t = .slice e) (hz:cf.sz e≠0) (hn0:0<n) (hn:n*cf.sz e<=16777216) (hidx:parts.toList.map (·.1)=List.range n) (hvs:parts.toList.mapM (fun p=>match look T p.2 with | (true,.tv v)=>some v | _=>none)=some vs) (hsz:∀ v∈vs,v.cs.length=cf.sz e/\v.cs.all (Lf.dU H)=true) (hc:sF vs=some c) (hw:c.w=cf.sz e):jJ P cf b N H H o T (true,.sl c):=fun T' hT=>by
 rw [ho] at hT
 simp only [Op.operands] at hT
 refine ⟨hg,fun φ β M a w K Q hR hK=>Ue hR hd ho ht hz hn0 hn hidx (vs:=vs) ?_ hsz hc hw fun M' a' w' hR'=>hK _ _ _ _ _ hR'⟩
 rw [← hvs]
 exact mapM_congr fun p hp=>by
  rw [hT p.2 (by simp only [List.mem_toArray,List.mem_map];exact ⟨p,hp,rfl⟩)]
  try rfl
theorem XP {t e:Nat} {x y:Operand} {i:Nat} {c c2 c':Cn} {v:AV} (ho:o.op = .call { callee := .builtin .append,args:=#[x,y],argTypes:=#[t,t] }) (hg:o.guard=none) (hd:o.dst.all (Nat.blt · N)=true) (ht:cf.ty t = .slice e) (hz:cf.sz e≠0) (hx:look T x=(true,.lf (.own i))) (hi:H[i]? = some (.row e c)) (hy:look T y=(true,v)) (hc:content H v=some c2) (hw:c.w=cf.sz e) (h0:0<c2.len) (hap:c.app c2=some c') (hn:c.len+c2.len<=1073741824) (hby:cf.bytes e<=4096) :
  jJ P cf b N H ((H.set i .gone)++[.row e c']) o T (true,.lf (.own H.length)):=fun T' hT=>by
 rw [ho] at hT
 simp only [Op.operands,Call.operands] at hT
 exact ⟨hg,fun φ β M a w K Q hR hK=>Pg hR hd ho ht hz ((hT x (by simp)).trans hx) hi ((hT y (by simp)).trans hy) hc hw h0 hap hn hby fun φ' β' a' w' hR'=>hK _ _ _ _ _ hR'⟩
end
def dB:Nat->List Oper->List Nat
 | _,[]=>[]
 | k,o::l=>bif iQ o then k::dB (k+1) l else dB (k+1) l
def chainB (ops:Array Oper):List Nat->Bool
 | i::j::l=>(match ops[j]? with
  | some o=>o.after.any fun e=>Region.binds .any e && e.on == i
  | none=>false) && chainB ops (j::l)
 | _=>true
section
variable {ops:Array Oper} {ok:Nat->Oper->Tm->Bool×AV->Prop}
def dWI (ok:Nat->Oper->Tm->Bool×AV->Prop) (Q:Tm->Prop):Nat->List Oper->Tm->Prop
 | _,[],T=>Q T
 | k,o::l,T=>∃ v,ok k o T v/\dWI ok Q (k+1) l (T.put o.dst v)
def CU (ops:Array Oper) (ok:Nat->Oper->Tm->Bool×AV->Prop) (Q:Array Bool->Tm->Prop):Nat->Array Bool->Tm->Prop
 | 0,listed,T=>Region.ready .any ops listed=[]/\Q listed T
 | fuel+1,listed,T=>(Region.ready .any ops listed=[]->Q listed T)/\∀ i∈Region.ready .any ops listed,∃ o v,ops[i]? = some o/\ok i o T v/\CU ops ok Q fuel (listed.setIfInBounds i true) (T.put o.dst v)
def DZ (ops:Array Oper) (ok:Nat->Oper->Tm->Bool×AV->Prop):Prop:=∀ i o T T' v,(∀ x∈o.op.operands,look T' x=look T x)->guardOf ops o T'=guardOf ops o T->ok i o T v->ok i o T' v
theorem Gq {o:Oper} {T:Tm} {u:Bool×AV} {d:Option Nat} (hd:∀ t,d=some t->t ∉ o.looksAt ops):(∀ x∈o.op.operands,look (T.put d u) x=look T x)/\guardOf ops o (T.put d u)=guardOf ops o T:=by
 refine ⟨fun x hx=>pO fun t ht hxt=>hd t ht ?_,?_⟩
 ·subst hxt
  exact List.mem_append_left _ (List.mem_filterMap.2 ⟨.tmp t,by simpa using hx,rfl⟩)
 ·unfold guardOf
  cases e:o.guard with
  | none=>rfl
  | some p =>
   obtain ⟨j,want⟩:=p
   simp only
   cases e1:(ops[j]?).bind (·.dst) with
   | none=>rfl
   | some t =>
    simp only
    have:look (T.put d u) (.tmp t)=look T (.tmp t):=pO fun t' ht hxt=>hd t' ht (by
     cases hxt
     refine List.mem_append_right _ ?_
     simp [e,e1])
    have h2:(T.put d u) t=T t:=this
    rw [h2]
theorem JM (hc:DZ ops ok) {Q:Array Bool->Tm->Prop} {i:Nat} {oi:Oper} {v:Bool×AV} (hi:ops[i]? = some oi):∀ (fuel:Nat) (listed:Array Bool) (T:Tm),
  (∀ j oj,ops[j]? = some oj->j≠i->listed.getD j true=false->(∀ e∈oj.after,Region.binds .any e=true->e.on≠i)->oi.apart ops oj=true) ->
   i∈Region.ready .any ops listed->ok i oi T v->CU ops ok Q fuel (listed.setIfInBounds i true) (T.put oi.dst v)->CU ops ok Q (fuel+1) listed T:=by
 intro fuel
 induction fuel with
 | zero =>
  intro listed T _ hr hy K
  refine ⟨fun h=>(by rw [h] at hr;cases hr),fun j hj =>?_⟩
  by_cases hji:j=i
  ·subst hji;exact ⟨oi,v,hi,hy,K⟩
  ·have:=ready_mono hj hji
   rw [K.1] at this
   cases this
 | succ fuel ih =>
  intro listed T hfree hr hy K
  refine ⟨fun h=>(by rw [h] at hr;cases hr),fun j hj =>?_⟩
  by_cases hji:j=i
  ·subst hji;exact ⟨oi,v,hi,hy,K⟩
  ·obtain ⟨oj,u,hoj,h1,h2⟩:=K.2 j (ready_mono hj hji)
   obtain ⟨hjun,oj',hoj',hall⟩:=mem_ready.1 hj
   rw [hoj] at hoj'
   cases hoj'
   have hnot:∀ e∈oj.after,Region.binds .any e=true->e.on≠i:=fun e he hb heq=>by
    have h1:=hall e he hb
    have h0:=(mem_ready.1 hr).1
    rw [heq] at h1
    rcases Nat.lt_or_ge i listed.size with h' | h'
    ·simp [h'] at h0 h1;rw [h0] at h1;cases h1
    ·simp [Array.getElem?_eq_none h'] at h1
   obtain ⟨k1,k2,k3⟩:=Oper.apart_spec (hfree j oj hoj hji hjun hnot)
   obtain ⟨l1,l2⟩:=Gq (T:=T) (u:=v) (ops:=ops) (o:=oj) k1
   obtain ⟨l3,l4⟩:=Gq (T:=T) (u:=u) (ops:=ops) (o:=oi) k3
   refine ⟨oj,u,hoj,hc j oj _ T u (fun x hx=>(l1 x hx).symm) l2.symm h1,ih _ _ ?_ (ready_mono hr (Ne.symm hji)) (hc i oi T _ v l3 l4 hy) ?_⟩
   ·intro k ok' hk hki hun hno
    refine hfree k ok' hk hki ?_ hno
    by_cases hjk:j=k
    ·subst hjk;exact hjun
    ·rw [getD_set_ne true hjk] at hun;exact hun
   ·rw [Array.setIfInBounds_comm _ _ hji,← put_comm k2]
    exact h2
theorem pG (hc:DZ ops ok) {Q:Array Bool->Tm->Prop} {Q0:Tm->Prop} (hQ:∀ listed T,(∀ j,j<ops.size->listed.getD j false=true)->Q0 T->Q listed T):∀ (l:List Oper) (k:Nat) (listed:Array Bool) (T:Tm),(∀ j,l[j]? = ops[k+j]?)->listed.size=ops.size->(∀ j,j<k->j<ops.size->listed.getD j false=true) ->
  Region.lexFrom .any ops l.length k listed=true->dWI ok Q0 k l T->CU ops ok Q l.length listed T
 | [],k,listed,T,hl,hs,hk,hB,h=>⟨by simpa [Region.lexFrom] using hB,hQ _ _ (fun j hj=>hk j (by
  rcases Nat.lt_or_ge j k with h1 | h1
  ·exact h1
  ·have:=hl (j-k)
   rw [show k+(j-k)=j by omega,Array.getElem?_eq_getElem hj] at this
   simp at this) hj) h⟩
 | o::l,k,listed,T,hl,hs,hk,hB,h=>by
  have h0:ops[k]? = some o:=by simpa using (hl 0).symm
  simp only [List.length_cons,Region.lexFrom,Bool.and_eq_true] at hB
  obtain ⟨⟨hr,hf⟩,hB'⟩:=hB
  obtain ⟨v,hy,hK⟩:=h
  have hko:=(Array.getElem?_eq_some_iff.1 h0).1
  refine JM hc h0 l.length listed T (Region.free_spec h0 hf) (by simpa using hr) hy
   (pG hc hQ l (k+1) _ _ (fun j=>by have:=hl (j+1);simpa [Nat.add_assoc,Nat.add_comm 1 j] using this) (by simp [hs]) (fun j hj hjo =>?_) hB' hK)
  by_cases e:j=k
  ·subst e
   simp [hs,hko]
  ·rw [getD_set_ne false (fun e'=>e e'.symm)]
   exact hk j (by omega) hjo
end
def waits (ops:Array Oper):Nat->List Nat->List Nat
 | 0,l=>l
 | fuel+1,l=>waits ops fuel (l++l.flatMap fun i=>match ops[i]? with
  | some o=>(o.after.toList.filter fun e=>Region.binds .any e).map (·.on)
  | none=>[])
def acK (ops:Array Oper) (w:Nat) (anc:List Nat):Bool:=anc.all fun i=>(waits ops 4 [w]).contains i
def shut (ops:Array Oper) (listed:Array Bool):Prop:=∀ i o,ops[i]? = some o->listed.getD i false=true->∀ e∈o.after,Region.binds .any e=true->listed.getD e.on false=true
theorem ER {ops:Array Oper} {listed:Array Bool} (h:shut ops listed):∀ {fuel:Nat} {l:List Nat},(∀ i∈l,listed.getD i false=true)->∀ i∈waits ops fuel l,listed.getD i false=true
 | 0,l,hl,i,hi=>hl i hi
 | fuel+1,l,hl,i,hi=>ER h (fuel:=fuel) (l:=_) (fun j hj=>by
  rcases List.mem_append.1 hj with hj | hj
  ·exact hl j hj
  ·obtain ⟨k,hk,hj⟩:=List.mem_flatMap.1 hj
   split at hj
   ·rename_i o ho
    obtain ⟨e,he,rfl⟩:=List.mem_map.1 hj
    obtain ⟨he1,he2⟩:=List.mem_filter.1 he
    exact h k o ho (hl k hk) e (by simpa using he1) he2
   ·simp at hj) i hi
section
variable {P:Program} {cf:Cfg} {b:Base} {N:Nat} {ops:Array Oper} {n:Nat} {W:List Nat} {H0:List Ob} {wi:Nat} {anc:List Nat}
def okI (P:Program) (cf:Cfg) (b:Base) (N:Nat) (ops:Array Oper) (n:Nat) (W:List Nat) (anc:List Nat) (H0:List Ob) (mem:List Nat) (hs:List (List Ob)) (i:Nat) (o:Oper) (T:Tm) (v:Bool×AV):Prop :=
 (iQ o=true/\∃ p H H1,mem[p]? = some i/\hs[p]? = some H/\hs[p+1]? = some H1/\jJ P cf b N H H1 o T v)\/(iQ o=false/\(bU n W H0 T o.op || (anc.contains i && bU n [] H0 T o.op))=true/\oN P cf H0 N ops o T v)
theorem oz {W:List Nat} {T T':Tm} {op:Op} (h:∀ x∈op.operands,look T' x=look T x):bU n W H0 T' op=bU n W H0 T op:=by
 cases op<;>simp only [Op.operands] at h<;>simp only [bU]
 case load t x=>rw [h x (by simp)]
 case indexAddr t x ix=>rw [h x (by simp),h ix (by simp)]
 case binOp op t x y t'=>rw [h x (by simp)]
 case build t parts =>
  rw [Bool.eq_iff_iff,List.all_eq_true,List.all_eq_true]
  have hq:∀ p∈parts.toList,look T' p.2=look T p.2:=fun p hp=>h p.2 (by simp only [List.mem_toArray,List.mem_map];exact ⟨p,hp,rfl⟩)
  exact ⟨fun k p hp=>by rw [← hq p hp];exact k p hp,fun k p hp=>by rw [hq p hp];exact k p hp⟩
 case call c =>
  simp only [Call.operands] at h
  congr 1
  ·split
   ·rename_i x hx
    rw [h x (by simp [hx])]
   ·rfl
  ·rw [Bool.eq_iff_iff,List.all_eq_true,List.all_eq_true]
   have ha:∀ x∈c.args.toList,look T' x=look T x:=fun x hx=>h x (Array.mem_append.2 (.inr (Array.mem_toList_iff.1 hx)))
   exact ⟨fun k x hx=>by rw [← ha x hx];exact k x hx,fun k x hx=>by rw [ha x hx];exact k x hx⟩
theorem VT {mem:List Nat} {hs:List (List Ob)}:DZ ops (okI P cf b N ops n W anc H0 mem hs):=fun i o T T' v h hg k=>by
 rcases k with ⟨h1,p,H,H1,h2,h3,h4,h5⟩ | ⟨h1,h2,h3⟩
 ·exact .inl ⟨h1,p,H,H1,h2,h3,h4,KU h h5⟩
 ·exact .inr ⟨h1,by rw [oz h,oz h];exact h2,nM h hg h3⟩
def Ls (P:Program) (cf:Cfg) (N:Nat) (ops:Array Oper) (n:Nat) (W anc:List Nat) (H0:List Ob) (k:Nat) (o:Oper) (T:Tm) (K:Tm->Prop):Prop :=
 (bU n W H0 T o.op || (anc.contains k && bU n [] H0 T o.op))=true/\(guardOf ops o T).1/\(qev cf H0 T (guardOf ops o T).2 o.op).1/\K (T.put o.dst ((guardOf ops o T).2,(qev cf H0 T (guardOf ops o T).2 o.op).2))
def dM (P:Program) (cf:Cfg) (N:Nat) (ops:Array Oper) (n:Nat) (W:List Nat) (wi:Nat) (anc:List Nat) (H0:List Ob) (Q:Tm->List Ob->Prop):Nat->List Oper->Tm->List Ob->Prop
 | _,[],T,H=>Q T H
 | k,o::l,T,H=>o.dst.all (Nat.blt · N)=true/\match o.op with
  | .alloc t=>o.guard=none/\cf.sz t≠0/\dM P cf N ops n W wi anc H0 Q (k+1) l (T.put o.dst (true,.lf (.ptr H.length 0))) (H++[.box ((cf.zero t).map fun v => .b (.val v))])
  | .store t x y=>o.guard=none/\o.dst=none/\cf.sz t≠0/\wi<=k/\(match look T x,look T y with
   | (true,.tv (.one (.ptr i off))),(true,.tv v)=>(match H[i]? with
    | some (.box cs)=>qJ n W i=false/\v.dU H=true/\v.cs.length=cf.sz t/\off+v.cs.length<=cs.length/\dM P cf N ops n W wi anc H0 Q (k+1) l T (H.set i (.box (splice cs off v.cs)))
    | _=>False)
   | (true,.tv (.one (.oa i wd j off))),(true,.tv v)=>(match H[i]? with
    | some (.row e c)=>(match c.put j off v with
     | some c'=>qJ n W i=false/\v.dU H=true/\v.cs.length=cf.sz t/\wd=c.w/\j<c.len/\off+v.cs.length<=c.w/\dM P cf N ops n W wi anc H0 Q (k+1) l T (H.set i (.row e c'))
     | none=>False)
    | _=>False)
   | _,_=>False)
  | .buildSlice t m parts=>o.guard=none/\(match m,cf.ty t with
   | 0,.slice e=>(match emp cf e with
    | some c=>parts=#[]/\cf.sz e≠0/\dM P cf N ops n W wi anc H0 Q (k+1) l (T.put o.dst (true,.lf (.own H.length))) (H++[.row e c])
    | none=>False)
   | m+1,.slice e=>parts.toList.map (·.1)=List.range (m+1)/\(match parts.toList.mapM (fun p=>match look T p.2 with | (true,.tv v)=>some v | _=>none) with
    | some vs=>(match sF vs with
     | some c=>cf.sz e≠0/\(m+1)*cf.sz e<=16777216/\(∀ v∈vs,v.cs.length=cf.sz e/\v.cs.all (Lf.dU H)=true)/\c.w=cf.sz e/\dM P cf N ops n W wi anc H0 Q (k+1) l (T.put o.dst (true,.sl c)) H
     | none=>False)
    | none=>False)
   | _,_=>False)
  | .call c=>(match c.callee,c.args.toList,c.argTypes.toList with
   | .builtin .append,[x,y],[t,t']=>o.guard=none/\t=t'/\wi<=k/\(match look T x,look T y,cf.ty t with
    | (true,.tv (.one (.own i))),(true,v),.slice e=>(match H[i]? with
     | some (.row e' c)=>(match content H v with
      | some c2=>(match c.app c2 with
       | some c'=>qJ n W i=false/\e=e'/\cf.sz e≠0/\c.w=cf.sz e/\0<c2.len/\c.len+c2.len<=1073741824/\cf.bytes e<=4096/\dM P cf N ops n W wi anc H0 Q (k+1) l (T.put o.dst (true,.lf (.own H.length))) ((H.set i .gone)++[.row e c'])
       | none=>False)
      | none=>False)
     | _=>False)
    | _,_,_=>False)
   | .builtin .append,_,_=>False
   | .value _,_,_=>(bU n W H0 T o.op || (anc.contains k && bU n [] H0 T o.op))=true/\(guardOf ops o T).1/\∃ r,lI P H0 T (guardOf ops o T).2 c r/\dM P cf N ops n W wi anc H0 Q (k+1) l (T.put o.dst ((guardOf ops o T).2,r)) H
   | _,_,_=>Ls P cf N ops n W anc H0 k o T fun T'=>dM P cf N ops n W wi anc H0 Q (k+1) l T' H)
  | _=>Ls P cf N ops n W anc H0 k o T fun T'=>dM P cf N ops n W wi anc H0 Q (k+1) l T' H
def DI (n:Nat) (W:List Nat) (wi:Nat) (H0 H:List Ob) (k:Nat):Prop:=agree n W H0 H/\(k<=wi->agree n [] H0 H)
theorem oW {H:List Ob} (h:agree n W H0 H) (l:List Ob):agree n W H0 (H++l):=by
 refine ⟨h.1,by have:=h.2.1;simp;omega,fun j hj =>?_⟩
 have hjn:j<n:=by simp only [qJ,Bool.and_eq_true,decide_eq_true_eq] at hj;exact hj.1
 rw [List.getElem?_append_left (Nat.lt_of_lt_of_le hjn h.2.1)]
 exact h.2.2 j hj
theorem zi {H:List Ob} {i:Nat} {p:Ob} (h:agree n W H0 H) (hi:qJ n W i=false):agree n W H0 (H.set i p):=by
 refine ⟨h.1,by simpa using h.2.1,fun j hj =>?_⟩
 rw [List.getElem?_set,if_neg (fun e=>by rw [e,hj] at hi;cases hi)]
 exact h.2.2 j hj
theorem MQ {Q:Tm->List Ob->Prop}:∀ (l:List Oper) (k:Nat) (T:Tm) (H:List Ob) (mem0:List Nat) (hs0:List (List Ob)),hs0.length=mem0.length->DI n W wi H0 H k->(∀ (q i:Nat) H',hs0[q]? = some H'->mem0[q]? = some i->DI n W wi H0 H' i)->dM P cf N ops n W wi anc H0 Q k l T H ->
  ∃ hs:List (List Ob),hs.length=(dB k l).length/\(∀ (q i:Nat) H',(hs0++H::hs)[q]? = some H'->(mem0++dB k l)[q]? = some i->DI n W wi H0 H' i)/\∃ He,(hs0++H::hs)[(mem0++dB k l).length]? = some He/\agree n W H0 He/\dWI (okI P cf b N ops n W anc H0 (mem0++dB k l) (hs0++H::hs)) (fun T=>Q T He) k l T
 | [],k,T,H,mem0,hs0,hl,ha,h0,h=>⟨[],rfl,fun q i H' hq hi=>by
   simp only [dB,List.append_nil] at hi
   have hlt:=(List.getElem?_eq_some_iff.1 hi).1
   rw [List.getElem?_append_left (by omega)] at hq
   exact h0 q i H' hq hi,H,by simp [dB,hl],ha.1,h⟩
 | o::l,k,T,H,mem0,hs0,hl,ha,h0,h=>by
  obtain ⟨hd,h⟩:=h
  have hread:∀ v,iQ o=false->(bU n W H0 T o.op || (anc.contains k && bU n [] H0 T o.op))=true->oN P cf H0 N ops o T v->dM P cf N ops n W wi anc H0 Q (k+1) l (T.put o.dst v) H ->
    ∃ hs:List (List Ob),hs.length=(dB k (o::l)).length/\(∀ (q i:Nat) H',(hs0++H::hs)[q]? = some H'->(mem0++dB k (o::l))[q]? = some i->DI n W wi H0 H' i)/\∃ He,(hs0++H::hs)[(mem0++dB k (o::l)).length]? = some He/\agree n W H0 He/\dWI (okI P cf b N ops n W anc H0 (mem0++dB k (o::l)) (hs0++H::hs)) (fun T=>Q T He) k (o::l) T:=fun v hm hoff hok hrest=>by
   have e:dB k (o::l)=dB (k+1) l:=by simp [dB,hm]
   obtain ⟨hs,h1,h2,He,h3,h3',h4⟩:=MQ l (k+1) _ H mem0 hs0 hl ⟨ha.1,fun hk=>ha.2 (by omega)⟩ h0 hrest
   rw [e]
   exact ⟨hs,h1,h2,He,h3,h3',v,.inr ⟨hm,hoff,hok⟩,h4⟩
  have hmem:∀ v H1,iQ o=true->DI n W wi H0 H1 (k+1)->jJ P cf b N H H1 o T v->dM P cf N ops n W wi anc H0 Q (k+1) l (T.put o.dst v) H1 ->
    ∃ hs:List (List Ob),hs.length=(dB k (o::l)).length/\(∀ (q i:Nat) H',(hs0++H::hs)[q]? = some H'->(mem0++dB k (o::l))[q]? = some i->DI n W wi H0 H' i)/\∃ He,(hs0++H::hs)[(mem0++dB k (o::l)).length]? = some He/\agree n W H0 He/\dWI (okI P cf b N ops n W anc H0 (mem0++dB k (o::l)) (hs0++H::hs)) (fun T=>Q T He) k (o::l) T:=fun v H1 hm ha1 hok hrest=>by
   obtain ⟨hs,h1,h2,He,h3,h3',h4⟩:=MQ l (k+1) _ H1 (mem0++[k]) (hs0++[H]) (by simp [hl]) ha1 (fun q i H' hq hi=>by
    rcases Nat.lt_or_ge q mem0.length with h | h
    ·rw [List.getElem?_append_left (by omega)] at hq hi
     exact h0 q i H' hq hi
    ·rw [List.getElem?_append_right (by omega)] at hq hi
     have hq0:q-mem0.length=0:=by have:=(List.getElem?_eq_some_iff.1 hi).1;simp at this;omega
     rw [hl,hq0] at hq
     rw [hq0] at hi
     simp at hq hi
     subst hq hi
     exact ha) hrest
   have e:dB k (o::l)=k::dB (k+1) l:=by simp [dB,hm]
   rw [e]
   have e1:mem0++[k]++dB (k+1) l=mem0++k::dB (k+1) l:=by simp
   have e2:hs0++[H]++H1::hs=hs0++H::H1::hs:=by simp
   rw [e1,e2] at h2 h3 h4
   exact ⟨H1::hs,by simp [h1],h2,He,h3,h3',v,.inl ⟨hm,mem0.length,H,H1,by simp,by simp [← hl],by simp [← hl],hok⟩,h4⟩
  have hrd:Ls P cf N ops n W anc H0 k o T (fun T'=>dM P cf N ops n W wi anc H0 Q (k+1) l T' H)->iQ o=false->_:=fun hr hm=>hread _ hm hr.1 ⟨hd,hr.2.1,rfl,.inr ⟨hr.2.2.1,rfl⟩⟩ hr.2.2.2
  split at h
  ·rename_i t ho
   obtain ⟨hg,hz,h⟩:=h
   exact hmem _ _ (by simp [iQ,ho]) ⟨oW ha.1 _,fun hk=>oW (ha.2 (by omega)) _⟩ (FN ho hg hd hz) h
  ·rename_i t x y ho
   obtain ⟨hg,hd',hz,hwi,h⟩:=h
   split at h
   ·rename_i i off v hx hy
    split at h
    ·rename_i cs hi
     obtain ⟨h1,h2,h3,h4,h⟩:=h
     exact hmem (true,.und) _ (by simp [iQ,ho]) ⟨zi ha.1 h1,fun hk=>by omega⟩ (FP ho hg hd' hz hx hy hi h2 h3 h4 _) (by rw [hd'];exact h)
    ·exact h.elim
   ·rename_i i wd j off v hx hy
    split at h
    ·rename_i e c hi
     split at h
     ·rename_i c' hp
      obtain ⟨h1,h2,h3,h4,h5,h6,h⟩:=h
      exact hmem (true,.und) _ (by simp [iQ,ho]) ⟨zi ha.1 h1,fun hk=>by omega⟩ (uS ho hg hd' hz hx hy hi hp h2 h3 h4 h5 h6 _) (by rw [hd'];exact h)
     ·exact h.elim
    ·exact h.elim
   ·exact h.elim
  ·rename_i t m parts ho
   obtain ⟨hg,h⟩:=h
   split at h
   ·rename_i e ht
    split at h
    ·rename_i c hc
     obtain ⟨rfl,hz,h⟩:=h
     exact hmem _ _ (by simp [iQ,ho]) ⟨oW ha.1 _,fun hk=>oW (ha.2 (by omega)) _⟩ (JU ho hg hd ht hz hc) h
    ·exact h.elim
   ·rename_i m e ht
    obtain ⟨hidx,h⟩:=h
    split at h
    ·rename_i vs hvs
     split at h
     ·rename_i c hc
      obtain ⟨hz,hn,hsz,hw,h⟩:=h
      exact hmem _ _ (by simp [iQ,ho]) ⟨ha.1,fun hk=>ha.2 (by omega)⟩ (PE ho hg hd ht hz (Nat.succ_pos _) hn hidx hvs hsz hc hw) h
     ·exact h.elim
    ·exact h.elim
   ·exact h.elim
  ·rename_i c ho
   obtain ⟨cl,⟨as⟩,⟨ts⟩⟩:=c
   split at h
   ·rename_i x y t t' _ _ _
    simp only at *
    subst_vars
    obtain ⟨hg,rfl,hwi,h⟩:=h
    split at h
    ·rename_i i v e hx hy ht
     split at h
     ·rename_i e' c hi
      split at h
      ·rename_i c2 hc
       split at h
       ·rename_i c' hap
        obtain ⟨h1,rfl,hz,hw,h0',hn,hby,h⟩:=h
        exact hmem _ _ (by simp [iQ,ho]) ⟨oW (zi ha.1 h1) _,fun hk=>by omega⟩ (XP ho hg hd ht hz hx hi hy hc hw h0' hap hn hby) h
       ·exact h.elim
      ·exact h.elim
     ·exact h.elim
    ·exact h.elim
   ·exact h.elim
   ·obtain ⟨hoff,hg,r,hc,h⟩:=h
    rename_i f e
    exact hread _ (by
     simp only at e
     subst e
     simp [iQ,ho]) hoff ⟨hd,hg,rfl,.inl ⟨_,ho,hc⟩⟩ h
   ·rename_i h1 h2 h3
    refine hrd h ?_
    unfold iQ
    rw [ho]
    simp only
  ·rename_i h1 h2 h3 h4
   refine hrd h ?_
   unfold iQ
   split
   ·rename_i t e;exact (h1 t e).elim
   ·rename_i t x y e;exact (h2 t x y e).elim
   ·rename_i t m ps e;exact (h3 t m ps e).elim
   ·rename_i c e;exact (h4 c e).elim
   ·rfl
theorem CP:∀ {mem:List Nat} {p i j:Nat},chainB ops mem=true->mem[p]? = some i->mem[p+1]? = some j->∃ o,ops[j]? = some o/\∃ e∈o.after,Region.binds .any e=true/\e.on=i
 | [],p,i,j,_,h,_=>by simp at h
 | [_],p,i,j,_,_,h=>by simp at h
 | i'::j'::l,p,i,j,hc,h1,h2=>by
  simp only [chainB,Bool.and_eq_true] at hc
  cases p with
  | zero =>
   simp only [List.getElem?_cons_zero,Option.some.injEq,Nat.zero_add,List.getElem?_cons_succ] at h1 h2
   subst h1 h2
   have h3:=hc.1
   split at h3
   ·rename_i o ho
    simp only [Array.any_eq_true',Bool.and_eq_true,beq_iff_eq] at h3
    obtain ⟨e,he,hb,h4⟩:=h3
    exact ⟨o,ho,e,he,hb,h4⟩
   ·cases h3
  | succ p=>exact CP hc.2 (by simpa using h1) (by simpa using h2)
theorem FT {listed:Array Bool} {i k:Nat} (h:listed.getD k false=true):(listed.setIfInBounds i true).getD k false=true:=by
 by_cases e:i=k
 ·subst e
  have hi:i<listed.size:=by
   rcases Nat.lt_or_ge i listed.size with h' | h'
   ·exact h'
   ·simp [Array.getElem?_eq_none h'] at h
  simp [hi]
 ·rw [getD_set_ne false e]
  exact h
theorem lF {listed:Array Bool} {i:Nat} (hi:i∈Region.ready .any ops listed) (h:shut ops listed):shut ops (listed.setIfInBounds i true):=fun j o ho hj e he hb=>by
 by_cases hji:i=j
 ·subst hji
  obtain ⟨_,o',ho',hall⟩:=mem_ready.1 hi
  rw [ho] at ho'
  cases ho'
  exact FT (hall e he hb)
 ·rw [getD_set_ne false hji] at hj
  exact FT (h j o ho hj e he hb)
theorem EX {mem:List Nat} {hs:List (List Ob)} {Qf:Tm->Prop} {Q':Exit->Act->World->Prop} {He:List Ob} (hlen:hs.length=mem.length+1) (hHe:hs[mem.length]? = some He) (hlk:∀ (q i:Nat) H,hs[q]? = some H->mem[q]? = some i->DI n W wi H0 H i) (hae:agree n W H0 He) (hso:mem.Pairwise (·<·)) (hlt:∀ i∈mem,i<ops.size) (hno:∀ (i:Nat) (o:Oper),ops[i]? = some o->iQ o=false->i ∉ mem) (hch:chainB ops mem=true) (hanc:acK ops wi anc=true) (hwi:anc=[]\/wi∈mem)
  (hQ:∀ φ' β' M' T' a' w',RA P cf b N φ' β' M' ⟨T',He⟩ a' w'->Qf T'->Q' .normal a' w'):∀ (fuel:Nat) (listed:Array Bool) (p:Nat) (H:List Ob) (φ:Nat->Value) (β:Nat->Nat->Prop) (M:Mem) (T:Tm) (a:Act) (w:World),listed.size=ops.size->hs[p]? = some H->(∀ q i,mem[q]? = some i->(listed.getD i false=true↔q<p))->shut ops listed ->
  RA P cf b N φ β M ⟨T,H⟩ a w->CU ops (okI P cf b N ops n W anc H0 mem hs) (fun listed T=>(∀ j,j<ops.size->listed.getD j false=true)/\Qf T) fuel listed T->wpAny P .any ops Q' fuel listed a w:=by
 have hnd:mem.Nodup:=hso.imp fun h=>Nat.ne_of_lt h
 have hend:∀ (listed:Array Bool) (p:Nat) (H:List Ob) (φ:Nat->Value) (β:Nat->Nat->Prop) (M:Mem) (T:Tm) (a:Act) (w:World),hs[p]? = some H->(∀ q i,mem[q]? = some i->(listed.getD i false=true↔q<p))->RA P cf b N φ β M ⟨T,H⟩ a w->((∀ j,j<ops.size->listed.getD j false=true)/\Qf T)->Q' .normal a w:=fun listed p H φ β M T a w hp hl hR ⟨h1,h2⟩=>by
  have hple:p<=mem.length:=by have:=(List.getElem?_eq_some_iff.1 hp).1;omega
  have hpe:p=mem.length:=by
   rcases Nat.lt_or_ge p mem.length with h3 | h3
   ·have h4:=List.getElem?_eq_getElem h3
    have:=(hl p _ h4).1 (h1 _ (hlt _ (List.getElem_mem h3)))
    omega
   ·omega
  subst hpe
  rw [hHe] at hp
  cases hp
  exact hQ _ _ _ _ _ _ hR h2
 intro fuel
 induction fuel with
 | zero =>
  intro listed p H φ β M T a w hsz hp hl hsh hR h
  exact ⟨h.1,hend listed p H φ β M T a w hp hl hR h.2⟩
 | succ fuel ih =>
  intro listed p H φ β M T a w hsz hp hl hsh hR h
  refine ⟨fun h0=>hend listed p H φ β M T a w hp hl hR (h.1 h0),fun i hi =>?_⟩
  obtain ⟨o,v,ho,h1,h2⟩:=h.2 i hi
  have hsh':=lF hi hsh
  have hiu:=(mem_ready.1 hi).1
  have hil:i<listed.size:=by rw [hsz];exact (Array.getElem?_eq_some_iff.1 ho).1
  have hiu':listed.getD i false=false:=by
   simp [hil] at hiu ⊢
   exact hiu
  unfold wpOp
  rw [ho]
  simp only
  rcases h1 with ⟨hm,q,Hq,Hq1,e1,e2,e3,h3⟩ | ⟨hm,hoff,hok⟩
  ·obtain ⟨hg,hE⟩:=h3 T fun _ _=>rfl
   have hqp:q=p:=by
    have hq1:¬ q<p:=fun hlt'=>by rw [(hl q i e1).2 hlt'] at hiu';cases hiu'
    rcases Nat.eq_or_lt_of_le (Nat.not_lt.1 hq1) with h4 | h4
    ·exact h4.symm
    ·exfalso
     have hq0:(q-1)<mem.length:=by have:=(List.getElem?_eq_some_iff.1 e1).1;omega
     have e4:=List.getElem?_eq_getElem hq0
     obtain ⟨o',ho',e,he,hb,hon⟩:=CP hch e4 (by rw [show q-1+1=q by omega];exact e1)
     rw [ho] at ho'
     cases ho'
     obtain ⟨_,o2,ho2,hall⟩:=mem_ready.1 hi
     rw [ho] at ho2
     cases ho2
     have h5:=hall e he hb
     rw [hon] at h5
     have:=(hl (q-1) _ e4).1 h5
     omega
   subst hqp
   rw [hp] at e2
   cases e2
   have hw:Region.wanted o (yielded ops a.tmps)=true:=by simp [Region.wanted,hg]
   rw [if_pos hw]
   left
   have hl':∀ q' i',mem[q']? = some i'->((listed.setIfInBounds i true).getD i' false=true↔q'<q+1):=fun q' i' h6=>by
    by_cases e:i'=i
    ·subst e
     have:q'=q:=by
      have h7:=(List.getElem?_eq_some_iff.1 h6)
      have h8:=(List.getElem?_eq_some_iff.1 e1)
      exact Gv hnd h7.1 h8.1 (by rw [h7.2,h8.2])
     subst this
     simp [hil]
    ·rw [getD_set_ne false (fun e'=>e e'.symm),hl q' i' h6]
     have:q'≠q:=fun e'=>by
      subst e'
      rw [e1] at h6
      cases h6
      exact e rfl
     omega
   exact hE φ β M a w _ _ hR fun φ' β' M' a' w' hR'=>ih _ (q+1) _ φ' β' M' _ a' w' (by simp [hsz]) e3 hl' hsh' hR' h2
  ·have hok':oN P cf H N ops o T v:=by
    rcases Bool.or_eq_true _ _ ▸ hoff with hoff | hoff
    ·refine pR ?_ hoff hok
     rcases Nat.lt_or_ge p mem.length with h4 | h4
     ·exact (hlk p _ H hp (List.getElem?_eq_getElem h4)).1
     ·have:p=mem.length:=by have:=(List.getElem?_eq_some_iff.1 hp).1;omega
      subst this
      rw [hHe] at hp
      cases hp
      exact hae
    ·simp only [Bool.and_eq_true] at hoff
     obtain ⟨hia,hoff⟩:=hoff
     have hia':i∈anc:=by simpa using hia
     have hwm:wi∈mem:=by
      rcases hwi with h | h
      ·subst h;cases hia'
      ·exact h
     have hnw:listed.getD wi false=false:=by
      cases h8:listed.getD wi false with
      | false=>rfl
      | true =>
       have h9:(waits ops 4 [wi]).contains i=true:=List.all_eq_true.1 hanc i hia'
       rw [ER hsh (fun j hj=>by
        rw [List.mem_singleton] at hj
        subst hj
        exact h8) i (by simpa using h9)] at hiu'
       cases hiu'
     obtain ⟨qw,hqw,hqe⟩:=List.getElem_of_mem hwm
     have hqs:mem[qw]? = some wi:=by rw [List.getElem?_eq_getElem hqw,hqe]
     have hpq:p<=qw:=by
      rcases Nat.lt_or_ge qw p with h8 | h8
      ·rw [(hl qw wi hqs).2 h8] at hnw
       cases hnw
      ·exact h8
     have hpm:p<mem.length:=by omega
     have hle:mem[p]<=wi:=by
      rcases Nat.eq_or_lt_of_le hpq with h8 | h8
      ·subst h8;omega
      ·have:=List.pairwise_iff_getElem.1 hso p qw hpm hqw h8
       omega
     exact pR ((hlk p _ H hp (List.getElem?_eq_getElem hpm)).2 hle) hoff hok
   have hl':∀ q' i',mem[q']? = some i'->((listed.setIfInBounds i true).getD i' false=true↔q'<p):=fun q' i' h6=>by
    by_cases e:i'=i
    ·subst e
     exact (hno i' o ho hm (List.mem_of_getElem? h6)).elim
    ·rw [getD_set_ne false (fun e'=>e e'.symm)]
     exact hl q' i' h6
   have:=yF (Q:=Q') hR hok' (K:=wpAny P .any ops Q' fuel _) (fun M' a' w' _ hR'=>ih (listed.setIfInBounds i true) p H φ β M' _ a' w' (by simp [hsz]) hp hl' hsh' hR' h2)
   split
   ·rename_i hw
    rw [if_pos hw] at this
    exact .inl this
   ·rename_i hw
    rw [if_neg hw] at this
    exact this
theorem sH:∀ {l:List Oper} {k i:Nat},i∈dB k l->∃ o,k<=i/\l[i-k]? = some o/\iQ o=true
 | [],k,i,h=>by simp [dB] at h
 | o::l,k,i,h=>by
  have hrec:i∈dB (k+1) l->∃ o',k<=i/\(o::l)[i-k]? = some o'/\iQ o'=true:=fun h=>by
   obtain ⟨o',h1,h2,h3⟩:=sH h
   refine ⟨o',by omega,?_,h3⟩
   rw [show i-k=(i-(k+1))+1 by omega]
   simpa using h2
  simp only [dB] at h
  cases e:iQ o with
  | true =>
   rw [e] at h
   rcases List.mem_cons.1 h with rfl | h
   ·exact ⟨o,Nat.le_refl _,by simp,e⟩
   ·exact hrec h
  | false=>rw [e] at h;exact hrec h
theorem oL:∀ (l:List Oper) (k:Nat),(dB k l).Pairwise (·<·)
 | [],_=>List.Pairwise.nil
 | o::l,k=>by
  simp only [dB]
  cases iQ o with
  | true =>
   refine List.pairwise_cons.2 ⟨fun j h =>?_,oL l (k+1)⟩
   obtain ⟨_,h1,_⟩:=sH h
   omega
  | false=>exact oL l (k+1)
theorem iD {id:Nat} {l:List Oper} {X:St} {Q:Exit->St->Prop} (W:List Nat) (wi:Nat) (anc:List Nat) (hm:P.follows .mixedOrders=true) (hB:Region.lexB .any l.toArray=true) (hch:chainB l.toArray (dB 0 l)=true) (hanc:acK l.toArray wi anc=true) (hwi:(anc.isEmpty || (dB 0 l).contains wi)=true)
  (h:dM P cf N l.toArray X.H.length W wi anc X.H (fun T H=>Q .normal ⟨T,H⟩) 0 l X.T X.H):awp P cf b N (.region id l.toArray true) Q X:=fun a w ⟨φ,β,M,hR⟩=>by
 simp only [Region.lexB,Bool.and_eq_true] at hB
 have h00:∀ W,agree X.H.length W X.H X.H:=fun _=>⟨Nat.le_refl _,Nat.le_refl _,fun _ _=>rfl⟩
 obtain ⟨hs,h1,h2,He,h3,h3',h4⟩:=MQ (b:=b) (n:=X.H.length) (W:=W) (H0:=X.H) l 0 X.T X.H [] [] rfl ⟨h00 _,fun _=>h00 _⟩ (fun _ _ _ h=>by simp at h) h
 simp only [List.nil_append] at h2 h3 h4
 have hmi:∀ i∈dB 0 l,∃ o,l.toArray[i]? = some o/\iQ o=true:=fun i hi=>by
  obtain ⟨o,_,e,hm⟩:=sH hi
  exact ⟨o,by simpa using e,hm⟩
 refine wp_region_any hm ?_
 refine EX (P:=P) (cf:=cf) (b:=b) (N:=N) (n:=X.H.length) (W:=W) (wi:=wi) (anc:=anc) (H0:=X.H) (mem:=dB 0 l) (hs:=X.H::hs) (Qf:=fun T=>Q .normal ⟨T,He⟩) (by simp [h1]) h3 h2 h3' (oL l 0) (fun i hi=>by
   obtain ⟨o,e,_⟩:=hmi i hi
   exact (Array.getElem?_eq_some_iff.1 e).1) (fun i o ho hn hi=>by
   obtain ⟨o',e,hm'⟩:=hmi i hi
   rw [ho] at e
   cases e
   rw [hn] at hm'
   cases hm') hch hanc (by
   rcases Bool.or_eq_true _ _ ▸ hwi with h | h
   ·exact .inl (List.isEmpty_iff.1 h)
   ·exact .inr (by simpa using h)) (fun φ' β' M' T' a' w' hR' hQ=>⟨_,hQ,φ',β',M',hR'⟩) _ _ 0 X.H φ β M X.T a _ (by simp) rfl (fun q i hq=>by
   have hi:=(hmi i (List.mem_of_getElem? hq))
   obtain ⟨o,e,_⟩:=hi
   have hlt:=(Array.getElem?_eq_some_iff.1 e).1
   have hlt':i<l.length:=by simpa using hlt
   simp [hlt']) (fun i o ho hi=>by
   exfalso
   rcases Nat.lt_or_ge i l.length with h' | h'
   ·simp [h'] at hi
   ·simp [h'] at hi) hR.draw ?_
 have:=pG (ops:=l.toArray) (ok:=okI P cf b N l.toArray X.H.length W anc X.H (dB 0 l) (X.H::hs)) VT (Q:=fun listed T=>(∀ j,j<l.toArray.size->listed.getD j false=true)/\Q .normal ⟨T,He⟩) (Q0:=fun T=>Q .normal ⟨T,He⟩) (fun listed T h5 h6=>⟨h5,h6⟩) l 0 (Array.replicate l.toArray.size false) X.T (by simp) (by simp) (fun j hj=>by omega) (by simpa using hB.2) h4
 simpa using this
end
def Wu (o:Oper):Bool:=match o.op with
 | .alloc _=>false
 | .store _ _ _=>false
 | .box _ _=>false
 | .makeSlice _ _ _=>false
 | .buildSlice _ _ _=>false
 | .call c=>(match c.callee with
  | .builtin .append=>false
  | .builtin .copy=>false
  | _=>true)
 | _=>true
theorem TI {P:Program} {cf:Cfg} {b:Base} {N id:Nat} {l:List Oper} {X:St} {Q:Exit->St->Prop} (hq:l.all Wu=true) (hm:P.follows .mixedOrders=true) (hB:Region.lexB .any l.toArray=true) (h:dR P cf X.H N l.toArray (fun T=>Q .normal ⟨T,X.H⟩) l X.T):awp P cf b N (.region id l.toArray true) Q X:=XA hm hB h
theorem g1:type_of% @O4 := @O4
theorem g2:type_of% @FI := @FI
theorem g3:type_of% @JC := @JC
theorem g4:type_of% @JB := @JB
theorem g5:type_of% @O1 := @O1
theorem g6:type_of% @OZ := @OZ
theorem g7 {P:Program} {cf:Cfg} {b:Base} {N id:Nat} {l:List Oper} {X:St} {Q:Exit->St->Prop} (h:dR P cf X.H N l.toArray (fun T=>Q .normal ⟨T,X.H⟩) l X.T) (hq:l.all Wu=true:=by rfl) (hm:P.follows .mixedOrders=true:=by kernel_rfl) (hB:Region.lexB .any l.toArray=true:=by kernel_rfl):awp P cf b N (.region id l.toArray true) Q X:=TI hq hm hB h
def Ob.ltB (n:Nat):Ob->Bool
 | .box cs=>cs.all (Lf.ltB n)
 | .hole _ _ _ _ x=>x.ltB n
 | .cut _ _ _ _ x=>x.ltB n
 | _=>true
theorem Ob.sG {n:Nat} {o:Ob} (h:o.ltB n=true):o.lt n:=by
 cases o with
 | box cs=>exact fun y hy=>List.all_eq_true.1 h y hy
 | hole e es c k x=>exact h
 | cut e e2 c k x=>exact h
 | _=>trivial
def AV.ltB (n:Nat) (x:AV):Bool:=x.leaves.all (Lf.ltB n)
theorem AV.sG {n:Nat} {x:AV} (h:x.ltB n=true):x.lt n:=fun y hy=>List.all_eq_true.1 h y hy
def sN:List Nat->Bool
 | []=>true
 | s::σ => !(σ.contains s) && sN σ
theorem je:∀ {σ:List Nat},sN σ=true->σ.Nodup
 | [],_=>List.nodup_nil
 | s::σ,h=>by
  simp only [sN,Bool.and_eq_true,Bool.not_eq_true',List.contains_eq_mem,decide_eq_false_iff_not] at h
  exact List.nodup_cons.2 ⟨h.1,je h.2⟩
theorem aJ {P:Program} {fx0:List Bool} {K:St->Prop} {o:Oper} {X:St} {c:Call} (σ:List Nat) {f:Nat} {xs:List Lf} {args:List AV} {fx:List Bool} {Hin Hout:List Ob} {r:AV} (h:bP P f args fx Hin r Hout) (hg:o.guard=none) (h1:bQ X.T c=some (true,f,xs)) (h2:(c.args.toList.all fun x=>(look X.T x).1)=true) (h3:(c.args.toList.map fun x=>(look X.T x).2)++xs.map (fun y=>AV.lf y)=args.map (AV.map (Lf.ren (cu σ X.H.length))))
  (h4:picks X.H (cu σ X.H.length) σ Hin) (h5:Hin.all (Ob.ltB Hin.length)=true) (hn:sN σ=true) (hl:σ.all (fun s=>Nat.blt s X.H.length)=true) (hf:(lost σ fx).all (fun s => !(fx0.getD s false))=true) (hK:K ⟨(X.T.map (Lf.eG (lost σ fx))).put o.dst (true,r.map (Lf.ren (cu σ X.H.length))),plug (X.H.map (Ob.map (Lf.eG (lost σ fx)))) σ (Hout.map (Ob.map (Lf.ren (cu σ X.H.length))))⟩):Cm P fx0 K o X c :=
 TR σ h hg h1 (List.all_eq_true.1 h2) h3 h4 (fun o ho=>Ob.sG (List.all_eq_true.1 h5 o ho)) (je hn) (fun s hs=>by simpa using List.all_eq_true.1 hl s hs) (fun s hs=>by simpa using List.all_eq_true.1 hf s hs) hK
theorem gJ {P:Program} {fx0:List Bool} {K:St->Prop} {o:Oper} {X:St} {c:Call} {f:Nat} {xs:List Lf} {vs:List AV} {Hout:List Ob} {r:AV} (h:bP P f vs [] [] r Hout) (hg:o.guard=none) (h1:bQ X.T c=some (true,f,xs)) (h2:(c.args.toList.all fun x=>(look X.T x).1)=true) (h3:jF X.H X.T c xs=some vs)
  (h4:r.mf=true) (h5:Hout.all Ob.mf=true) (h6:vs.all AV.free=true) (hK:K ⟨X.T.put o.dst (true,r.map (Lf.ren (cu [] X.H.length))),X.H++Hout.map (Ob.map (Lf.ren (cu [] X.H.length)))⟩):Cm P fx0 K o X c :=
 TS h hg h1 (List.all_eq_true.1 h2) h3 h4 h5 h6 hK
theorem aZ {P:Program} {cf:Cfg} {f N:Nat} {fn:Func} {c:Code} {args:List AV} {fx:List Bool} {Hin Hout:List Ob} (hf:P.funcs[f]? = some fn) (hb:fn.body=some c) (hN:fn.ntmps=N) (hcf:jP P cf) (hent:∀ (av:Array Value) (W:World),(callFunc f av).run P W = .ok (.enter f av) W) (hargs:args.all (AV.ltB Hin.length)=true) (hlen:Nat.ble args.length N=true) (hfx:Nat.ble fx.length Hin.length=true) {r:AV}
  (h:∀ M0 w0 S φ0,awp P cf ⟨M0,w0,S,φ0,fx,[]⟩ N c (fun e X=>ends e (Oh cf X fn.results.toList fx Hin.length r Hout)) ⟨tab (params 0 args),Hin⟩):bP P f args fx Hin r Hout :=
 acs hf hb hN hcf hent (fun x hx=>AV.sG (List.all_eq_true.1 hargs x hx)) (Nat.le_of_ble_eq_true hlen) (Nat.le_of_ble_eq_true hfx) h
theorem jG {P:Program} {fx0:List Bool} {ops:Array Oper} {K:St->Prop} {o:Oper} {X:St} {c:Call} (σ:List Nat) {f:Nat} {xs:List Lf} {args:List AV} {fx:List Bool} {Hin Hout:List Ob} {r:AV} (h:bP P f args fx Hin r Hout) (hg:guardOf ops o X.T=(True,true)) (h1:bQ X.T c=some (true,f,xs)) (h2:(c.args.toList.all fun x=>(look X.T x).1)=true) (h3:(c.args.toList.map fun x=>(look X.T x).2)++xs.map (fun y=>AV.lf y)=args.map (AV.map (Lf.ren (cu σ X.H.length))))
  (h4:picks X.H (cu σ X.H.length) σ Hin) (h5:Hin.all (Ob.ltB Hin.length)=true) (hn:sN σ=true) (hl:σ.all (fun s=>Nat.blt s X.H.length)=true) (hf:(lost σ fx).all (fun s => !(fx0.getD s false))=true) (hK:K ⟨(X.T.map (Lf.eG (lost σ fx))).put o.dst (true,r.map (Lf.ren (cu σ X.H.length))),plug (X.H.map (Ob.map (Lf.eG (lost σ fx)))) σ (Hout.map (Ob.map (Lf.ren (cu σ X.H.length))))⟩):MK P fx0 ops K o X c :=
 ⟨by rw [hg];trivial,.inr ⟨by rw [hg],σ,_,r,Hout,⟨⟨f,xs,args,fx,Hin,h1,List.all_eq_true.1 h2,h3,h4,fun o ho=>Ob.sG (List.all_eq_true.1 h5 o ho),h,rfl⟩,je hn,fun s hs=>by simpa using List.all_eq_true.1 hl s hs,fun s hs=>by simpa using List.all_eq_true.1 hf s hs⟩,hK⟩⟩
theorem xH {P:Program} {fx0:List Bool} {ops:Array Oper} {K:St->Prop} {o:Oper} {X:St} {c:Call} (r:AV) (hg:guardOf ops o X.T=(True,false)) (hr:r.oP=true) (hK:K ⟨X.T.put o.dst (false,r),X.H⟩):MK P fx0 ops K o X c :=
 ⟨by rw [hg];trivial,.inl ⟨by rw [hg],r,hr,hK⟩⟩
def UA:List Bool->List Nat->Nat->Bool
 | [],_,_=>true
 | f::fx,τ,k=>(!f || Nat.beq (τ.getD k 0) k) && UA fx τ (k+1)
theorem zA:∀ {fx:List Bool} {τ:List Nat} {k0:Nat},UA fx τ k0=true->∀ k,k<fx.length->fx.getD k false=true->τ.getD (k0+k) 0=k0+k
 | [],_,_,_,k,hk,_=>by simp at hk
 | f::fx,τ,k0,h,k,hk,hf=>by
  simp only [UA,Bool.and_eq_true] at h
  cases k with
  | zero =>
   simp at hf
   subst hf
   have:=h.1
   simp only [Bool.not_true,Bool.false_or] at this
   exact Nat.eq_of_beq_eq_true this
  | succ k =>
   have:=zA h.2 k (by simpa using hk) (by simpa using hf)
   rw [show k0+(k+1)=k0+1+k by omega]
   exact this
theorem bf {cf:Cfg} {X:St} {x:ResultVar} {fx:List Bool} {n:Nat} {r:AV} {Hout:List Ob} (τ:List Nat) {v:TV} (hn:sN τ=true) (hp:picks X.H (fun k=>τ.getD k 0) τ Hout) (hl:Nat.ble n τ.length=true) (hfx:UA fx τ 0=true) (hw:Hout.all (Ob.ltB Hout.length)=true) (hr:r.ltB Hout.length=true) (h1:nO cf X x v) (h2:AV.tv v=r.map (Lf.ren fun k=>τ.getD k 0)):Oh cf X [x] fx n r Hout :=
 ⟨τ,je hn,hp,Nat.le_of_ble_eq_true hl,fun k hk hf=>by have:=zA hfx k hk hf;rwa [Nat.zero_add] at this,fun o ho=>Ob.sG (List.all_eq_true.1 hw o ho),AV.sG hr,v,h1,h2⟩
theorem qL {cf:Cfg} {X:St} {x y:ResultVar} {xs:List ResultVar} {fx:List Bool} {n:Nat} {r:AV} {Hout:List Ob} (τ:List Nat) {vs:List TV} (hn:sN τ=true) (hp:picks X.H (fun k=>τ.getD k 0) τ Hout) (hl:Nat.ble n τ.length=true) (hfx:UA fx τ 0=true) (hw:Hout.all (Ob.ltB Hout.length)=true) (hr:r.ltB Hout.length=true) (h1:iZ cf X (x::y::xs) vs) (h2:AV.tup vs=r.map (Lf.ren fun k=>τ.getD k 0)):Oh cf X (x::y::xs) fx n r Hout :=
 ⟨τ,je hn,hp,Nat.le_of_ble_eq_true hl,fun k hk hf=>by have:=zA hfx k hk hf;rwa [Nat.zero_add] at this,fun o ho=>Ob.sG (List.all_eq_true.1 hw o ho),AV.sG hr,vs,h1,h2⟩
def Lf.imm (H:List Ob):Lf->Lf
 | .own i=>(match H[i]? with
  | some (.row _ c) => .b (.sl c)
  | some (.tree _ c) => .b (.sl c)
  | _ => .und)
 | .ptr _ _ => .und
 | .oa _ _ _ _ => .und
 | x=>x
theorem nG {P:Program} {f:Nat} {args:List AV} {r:AV} {Hout:List Ob} (h:bP P f args [] [] r Hout):Does P f args (.imm (r.map (Lf.imm Hout))):=by
 refine ⟨h.1,fun M w us hm ha=>(h.2 lN (fun _ _=>False) M w us (Y6 hm) ha).mono ?_⟩
 rintro e w' ⟨u,φ',β',M',rfl,hle,hnew,hHI,hr,hrl,_,_,hβ,hk⟩
 have hlt:∀ g,blks Hout β' g->w.heap.size<=g:=fun g ⟨k,hk,hg⟩=>by
  rcases hβ k g hk hg with h1 | ⟨l,hl,_⟩
  ·exact h1
  ·simp at hl
 have hm2:M'.le (M'.with (blks Hout β') w'):=fun ad v e=>by
  rw [Mem.jO fun ⟨k,hk,hg⟩=>hHI.off k ad.block hk hg ad v e rfl]
  exact e
 refine ⟨u,M'.with (blks Hout β') w',rfl,Mem.le_trans hle hm2,fun ad v e =>?_,?_,hk.EN fun g ⟨k,hk,_⟩=>by simp at hk⟩
 ·by_cases hb:blks Hout β' ad.block
  ·rw [Mem.oJ hb] at e
   exact ⟨e,.inr (hlt _ hb)⟩
  ·rw [Mem.jO hb] at e
   refine ⟨hHI.mem ad v e,?_⟩
   rcases hnew ad v e with h1 | h1 | ⟨k,hk,_⟩
   ·exact .inl h1
   ·exact .inr h1
   ·simp at hk
 ·refine AV.og hr fun y hy v hv =>?_
  have hlty:=hrl y hy
  cases y with
  | own i =>
   have hi:i<Hout.length:=by simpa [Lf.ltB] using hlty
   simp only [Lf.imm]
   split
   ·rename_i e c hc
    obtain ⟨vs,k1,k2,k3⟩:=hHI.ob i _ hc
    rw [show v=φ' i from hv]
    exact D7 k1 (Cn.aX hm2 k2) fun ad v hb hv=>by rw [Mem.oJ ⟨i,hi,k3 _ hb⟩];exact hv
   ·rename_i es c hc
    have ht:gX w' es c (φ' i) (β' i):=hHI.ob i _ hc
    rw [show v=φ' i from hv]
    exact ht.rel fun ad v hb hv=>by rw [Mem.oJ ⟨i,hi,hb⟩];exact hv
   ·trivial
  | ptr i o=>trivial
  | oa i w j o=>trivial
  | und=>trivial
  | b x=>exact B.aX hm2 hv
  | ea c j o=>exact Lf.aX (φ:=lN) hm2 (x := .ea c j o) hv
  | ip xs o=>exact Lf.aX (φ:=lN) hm2 (x := .ip xs o) hv
theorem bP.args {P:Program} {f:Nat} {xs ys:List AV} {fx:List Bool} {H H':List Ob} {r:AV} (h:bP P f ys fx H r H') (k:∀ φ M us,BP φ M xs us->BP φ M ys us):bP P f xs fx H r H':=⟨h.1,fun φ β M w us hm ha=>h.2 φ β M w us hm (k φ M us ha)⟩
theorem oq (m n:Nat):Nat.beq m n=(m == n):=by
 rw [Bool.eq_iff_iff,beq_iff_eq]
 exact ⟨Nat.eq_of_beq_eq_true,fun h=>by rw [h];exact Nat.beq_refl n⟩
theorem lu (n:Nat):(n == n)=true:=by simp
theorem JD (M:Mem) (w:World):(base0 M w).fx=[]:=rfl
theorem Vs (e:Nat) (c:Cn):Fh [e] c = .row e c:=rfl
theorem Vt (e e2:Nat) (es:List Nat) (c:Cn):Fh (e::e2::es) c = .tree (e::e2::es) c:=rfl
theorem Kq (j e:Nat) (es:List Nat) (c:Cn) (k:Nat) (x:Lf):oK j (.hole e es c k x)=bif Nat.beq k j then some (e,es,c) else none:=rfl
theorem flat_1 (xs:List Int):(Cn.ints xs).flat=true:=rfl
theorem flat_2 (xs:List (List Int)):(Cn.ii xs).flat=false:=rfl
theorem flat_3 (xs:List (List (List Int))):(Cn.iii xs).flat=false:=rfl
theorem flat_4 (n:Nat) (xs:List (List Int)):(Cn.k n xs).flat=true:=rfl
theorem flat_5 (n:Nat) (xs:List (List (List Int))):(Cn.ki n xs).flat=false:=rfl
theorem flat_6 (n:Nat) (xs:List (List (List (List Int)))):(Cn.kii n xs).flat=false:=rfl
theorem flat_7 (xs:List Bool):(Cn.bo xs).flat=true:=rfl
theorem flat_8 (xs:List (List Bool)):(Cn.bbo xs).flat=false:=rfl
theorem flat_9 (n:Nat):(Cn.nl n).flat=true:=rfl
theorem flat_10 (xs:List (Bool×Int×Int)):(Cn.wk xs).flat=true:=rfl
theorem Za (ρ:Nat->Nat) (x:B):(Lf.b x).ren ρ = .b x:=rfl
theorem Qz (ρ:Nat->Nat):Lf.und.ren ρ = .und:=rfl
theorem Wy (ρ:Nat->Nat) (xs:List B) (o:Nat):(Lf.ip xs o).ren ρ = .ip xs o:=rfl
theorem Wx (ρ:Nat->Nat) (c:Cn) (j o:Nat):(Lf.ea c j o).ren ρ = .ea c j o:=rfl
theorem oh (f:Lf->Lf) (e:Nat) (c:Cn):(Ob.row e c).map f = .row e c:=rfl
theorem lq (f:Lf->Lf) (es:List Nat) (c:Cn):(Ob.tree es c).map f = .tree es c:=rfl
theorem lg (f:Lf->Lf):Ob.gone.map f = .gone:=rfl
theorem Y7 (n:Nat) (W:List Nat) (H:List Ob) (x:B):bV n W H (.b x)=true:=rfl
theorem Qm (n:Nat) (W:List Nat) (H:List Ob):bV n W H .und=true:=rfl
theorem VO (n:Nat) (W:List Nat) (H:List Ob) (c:Cn) (j o:Nat):bV n W H (.ea c j o)=true:=rfl
theorem VP (n:Nat) (W:List Nat) (H:List Ob) (xs:List B) (o:Nat):bV n W H (.ip xs o)=true:=rfl
theorem VL (n:Nat) (W:List Nat) (x:B):RY n W (.b x)=true:=rfl
theorem P9 (ks:List Nat) (x:B):(Lf.b x).eG ks = .b x:=rfl
theorem Gh (ks:List Nat):Lf.und.eG ks = .und:=rfl
theorem Kz (ks:List Nat) (xs:List B) (o:Nat):(Lf.ip xs o).eG ks = .ip xs o:=rfl
theorem Ky (ks:List Nat) (c:Cn) (j o:Nat):(Lf.ea c j o).eG ks = .ea c j o:=rfl
theorem Gg (ks:List Nat) (L:List (Nat×Bool×AV)):(tab L).map (Lf.eG ks)=tab (L.map fun p=>(p.1,p.2.1,p.2.2.map (Lf.eG ks))):=yx _ rfl L
theorem VF (i n:Nat) (L:List (Nat×Bool×AV)):(tab L).map (Lf.mv i n)=tab (L.map fun p=>(p.1,p.2.1,p.2.2.map (Lf.mv i n))):=yx _ rfl L
theorem Yk (i n:Nat) (x:B):(Lf.b x).mv i n = .b x:=rfl
theorem VG (i n:Nat):Lf.und.mv i n = .und:=rfl
theorem Y4 (i n:Nat) (ys:List B) (o:Nat):(Lf.ip ys o).mv i n = .ip ys o:=rfl
theorem Y3 (i n:Nat) (c:Cn) (j o:Nat):(Lf.ea c j o).mv i n = .ea c j o:=rfl
theorem YR (x:Lf):AV.lf x = .tv (.one x):=rfl
section
variable {P:Program} {cf:Cfg} {b:Base} {N:Nat} {φ:Nat->Value} {β:Nat->Nat->Prop} {M:Mem} {T:Tm} {H:List Ob} {a:Act} {w w':World}
variable {ops:Array Oper} {o:Oper} {Q:Exit->Act->World->Prop} {rest:List Oper}
theorem Pj (h:RA P cf b N φ β M ⟨T,H⟩ a w) (hd:o.dst.all (Nat.blt · N)=true) {t n e:Nat} {parts:Array (Nat×Operand)} (ho:o.op = .buildSlice t n parts) (ht:cf.ty t = .slice e) (hz:cf.sz e≠0) (hn0:0<n) (hn:n*cf.sz e<=16777216)
  (hidx:parts.toList.map (·.1)=List.range n) {vs:List TV} (hvs:parts.toList.mapM (fun p=>match look T p.2 with | (true,.tv v)=>some v | _=>none)=some vs) (hsz:∀ v∈vs,v.cs.length=cf.sz e/\v.cs.all (Lf.dU H)=true) {c:Cn} (hc:sF vs=some c) (hw:c.w=cf.sz e)
  {K:Act->World->Prop} (hK:∀ φ' β' a' w',RA P cf b N φ' β' M ⟨T.put o.dst (true,.lf (.own H.length)),H++[.row e c]⟩ a' w'->K a' w'):o.wp P a w K Q:=by
 obtain ⟨m1,m2⟩:=mapM_some hvs
 have hpl:parts.toList.length=n:=by have:=congrArg List.length hidx;simpa using this
 have hval:∀ j (hj:j<vs.length) (hj':j<parts.toList.length),gQ φ M vs[j].cs (a.eval parts.toList[j].2).cells.toList:=fun j hj hj'=>by
  have h1:=m2 j hj' hj
  split at h1
  ·rename_i v hv
   cases h1
   have hr:=h.ctx.t parts.toList[j].2 (by rw [hv])
   rw [hv] at hr
   exact yZ hr fun x e=>by
    have h2:=(hsz _ (List.getElem_mem hj)).2
    rw [e] at h2 hr
    exact nK h.hi (by simpa [TV.cs] using h2) hr
  ·cases h1
 let us:List Value:=parts.toList.map fun p=>a.eval p.2
 have husl:us.length=vs.length:=by simp [us,m1]
 have hcs:∀ u∈us,u.cells.toList.length=cf.sz e:=fun u hu=>by
  obtain ⟨j,hj,rfl⟩:=List.getElem_of_mem hu
  have hj1:j<vs.length:=by omega
  have hj2:j<parts.toList.length:=by omega
  have:=(hval j hj1 hj2).1
  rw [(hsz _ (List.getElem_mem hj1)).1] at this
  simpa [us] using this
 obtain ⟨r1,r2⟩:=DJ (φ:=φ) (M:=M) (us:=us) hc husl fun j hj hj'=>by
  have:=hval j hj (by omega)
  simpa [us] using this
 have husn:us.length=n:=by simp [us];simpa using hpl
 have hcn:c.len=n:=by rw [r2,← husl,husn]
 obtain ⟨r,hrun,f2,f3⟩:=I5 (a:=a) (w:=w) h.cf ho ht hz hn0 hn hidx fun p hp=>hcs _ (List.mem_map.2 ⟨p,hp,rfl⟩)
 unfold Oper.wp
 rw [hrun]
 have hnn:n*1<=n*cf.sz e:=Nat.mul_le_mul_left _ (by omega)
 have hR:=h.grow (iT w (.cells r e)) (v := .slice (some ⟨w.heap.size,0,none⟩) n n) (o := .row e c) (fun g=>g=w.heap.size) (fun g hg'=>by rw [size_alloc];omega)
  ⟨r.toList,⟨by rw [f3,hcn,hw],.inr ⟨w.heap.size,n,r,by rw [hcn],Nat.zero_le _,heap_alloc_new w _,by omega,by simp only [maxLen];omega,by rw [hw];simpa using f3,by rw [hcn,hw,← f3];exact List.take_length⟩⟩,by rw [f2];exact r1,fun g hg'=>by simp [blk] at hg';omega⟩ trivial
 exact hK _ _ _ _ (hR.put (d:=o.dst) hd (Mem.le_refl _) hR.new hR.hi hR.below ⟨fun _=>(upd_same _ _ _).symm,fun hf=>by cases hf⟩ (AV.dL.2 (by simp [Lf.ltB])))
def Vh (cf : Cfg) (K : St -> Prop) (o : Oper) (X : St) (n e : Nat) (parts : Array (Nat × Operand)) : Prop := parts.toList.map (·.1) = List.range (n + 1) /\ (match parts.toList.mapM (fun p => match look X.T p.2 with | (true, .tv v) => some v | _ => none) with
      | some vs=>(match sF vs with
        | some c=>cf.sz e≠0/\(n+1)*cf.sz e<=16777216/\(∀ v∈vs,v.cs.length=cf.sz e/\v.cs.all (Lf.dU X.H)=true)/\c.w=cf.sz e/\K ⟨X.T.put o.dst (true,.lf (.own X.H.length)),X.H++[.row e c]⟩
        | none=>False)
      | none=>False)
def QN (cf:Cfg) (N:Nat) (K:St->Prop) (o:Oper) (X:St):Prop:=o.dst.all (Nat.blt · N)=true/\o.guard=none/\match o.op with
 | .buildSlice t (n+1) parts=>(match cf.ty t with
  | .slice e=>Vh cf K o X n e parts
  | _=>False)
 | _=>False
def sWo (P:Program) (cf:Cfg) (fx:List Bool) (N:Nat) (ops:Array Oper) (Q:St->Prop):List Bool->List Oper->St->Prop
 | [],l,X=>sW P cf fx N ops Q l X
 | _::_,[],X=>Q X
 | true::fl,o::l,X=>QN cf N (sWo P cf fx N ops Q fl l) o X
 | false::fl,o::l,X=>stepW P cf fx N ops (sWo P cf fx N ops Q fl l) o X
theorem Ji {K:St->Prop} {X:St} (hR:RA P cf b N φ β M X a w) (hs:QN cf N K o X) (hK:∀ φ' β' M' X' a' w',K X'->RA P cf b N φ' β' M' X' a' w'->wpList P ops Q rest a' w'):wpList P ops Q (o::rest) a w:=by
 obtain ⟨hd,hg,hs⟩:=hs
 split at hs
 ·rename_i t n parts ho
  split at hs
  ·rename_i e ht
   obtain ⟨hidx,hs⟩:=hs
   split at hs
   ·rename_i vs hvs
    split at hs
    ·rename_i c hc
     obtain ⟨hz,hn,hsz,hw,hs⟩:=hs
     exact wpList_plain hg fun K' hK'=>Pj hR hd ho ht hz (Nat.succ_pos _) hn hidx hvs hsz hc hw fun φ' β' a' w' hR'=>hK' _ _ (hK _ _ _ _ _ _ hs hR')
    ·exact hs.elim
   ·exact hs.elim
  ·exact hs.elim
 ·exact hs.elim
theorem oU {K:St->Prop} {Q':Exit->Act->World->Prop} (hQ:∀ φ' β' M' X' a' w',K X'->RA P cf b N φ' β' M' X' a' w'->Q' .normal a' w'):∀ (fl:List Bool) (l:List Oper) (φ:Nat->Value) (β:Nat->Nat->Prop) (M:Mem) (X:St) (a:Act) (w:World),
  RA P cf b N φ β M X a w->sWo P cf b.fx N ops K fl l X->wpList P ops Q' l a w
 | [],l,φ,β,M,X,a,w,hR,h=>qR hQ l φ β M X a w hR h
 | _::_,[],_,_,_,_,_,_,hR,h=>hQ _ _ _ _ _ _ h hR
 | true::fl,o::l,_,_,_,_,_,_,hR,h=>Ji hR h fun φ' β' M' X' a' w' hK hR'=>oU hQ fl l φ' β' M' X' a' w' hR' hK
 | false::fl,o::l,_,_,_,_,_,_,hR,h=>wpList_step hR h fun φ' β' M' X' a' w' hK hR'=>oU hQ fl l φ' β' M' X' a' w' hR' hK
end
section
variable {P:Program} {cf:Cfg} {b:Base} {N:Nat} {Q:Exit->St->Prop} {X:St}
theorem rJ (fl:List Bool) {id:Nat} {l:List Oper} (h:sWo P cf b.fx N l.toArray (fun X'=>Q .normal X') fl l X):awp P cf b N (.region id l.toArray false) Q X:=fun a w ⟨φ,β,M,hR⟩ =>
 wp_region_lit (oU (K:=fun X'=>Q .normal X') (fun φ' β' M' X' a' w' hQ hR'=>⟨_,hQ,φ',β',M',hR'⟩) fl l φ β M X a w hR h)
theorem kJ {c:Code} (i j e:Nat) (d:Cn) {cs:List Lf} (hi:X.H[i]? = some (.box cs)) (hj:cs[j]? = some (.b (.val (.slice none 0 0)))) (h0:d.len=0) (hok:d.ok) (h:awp P cf b N c Q ⟨X.T,(X.H.set i (.box (cs.set j (.own X.H.length))))++[.row e d]⟩):awp P cf b N c Q X:=fun a w ⟨φ,β,M,hR⟩=>by
 have hil:=(List.getElem?_eq_some_iff.1 hi).1
 have h1:=hR.grow (w':=w) (Below.refl _ _) (v := .slice none 0 0) (o := .row e d) (fun _=>False) (fun g hg=>hg.elim)
  ⟨[],⟨by rw [h0,Nat.zero_mul];rfl,.inl ⟨rfl,h0⟩⟩,⟨hok,by rw [h0,Nat.zero_mul];rfl,fun j o hj=>by omega⟩,fun g hg=>by cases hg⟩ trivial
 have hi':(X.H++[Ob.row e d])[i]? = some (.box cs):=by rw [List.getElem?_append_left hil];exact hi
 obtain ⟨g,arr,t,k1,k2,k3,k4⟩:=h1.hi.ob i _ hi'
 have hwf:=h1.hi.wf i _ hi'
 obtain ⟨hj1,hj2⟩:=List.getElem?_eq_some_iff.1 hj
 have h2:=h1.set (w':=w) (r:=none) (i:=i) (o' := .box (cs.set j (.own X.H.length))) (by simp;omega) (grownBy_refl _ _) (fun g hg=>by cases hg)
  ⟨g,arr,t,k1,k2,⟨by rw [List.length_set];exact k3.1,fun y hy hy'=>by
   rw [List.getElem_set]
   have hy2:y<cs.length:=by simpa using hy
   have h5:=k3.2 y hy2 hy'
   split
   ·rename_i e
    subst e
    rw [hj2] at h5
    show arr.toList[j]=upd φ X.H.length _ X.H.length
    rw [upd_same]
    exact h5
   ·exact h5⟩,k4⟩
  (fun y hy=>by
   rcases List.mem_or_eq_of_mem_set hy with h | rfl
   ·exact hwf y h
   ·simp [Lf.ltB])
 rw [List.set_append_left _ _ hil] at h2
 exact h a w ⟨_,_,_,h2⟩
end
theorem U8 {n:Nat} {W:List Nat} {H:List Ob} {x:Lf} (h:bV n W H x=true):x.kill n=x:=by
 have hne:∀ i,qJ n W i=true->Nat.beq i n=false:=fun i hi=>by
  simp only [qJ,Bool.and_eq_true,decide_eq_true_eq] at hi
  rw [Bool.eq_false_iff]
  intro e
  have:=Nat.eq_of_beq_eq_true e
  omega
 cases x<;>simp only [bV,Bool.and_eq_true] at h<;>simp only [Lf.kill]
 ·rw [hne _ h];rfl
 ·rw [hne _ h.1];rfl
 ·rw [hne _ h];rfl
theorem KA {n k:Nat} (hk:k<=n) {x:Lf} (h:x.ltB k=true):x.kill n=x:=by
 have hne:∀ i,Nat.blt i k=true->Nat.beq i n=false:=fun i hi=>by
  simp only [Nat.blt_eq] at hi
  rw [Bool.eq_false_iff]
  intro e
  have:=Nat.eq_of_beq_eq_true e
  omega
 cases x<;>simp only [Lf.ltB] at h<;>simp only [Lf.kill]
 ·rw [hne _ h];rfl
 ·rw [hne _ h];rfl
 ·rw [hne _ h];rfl
theorem map_eq {f:Lf->Lf}:∀ {v:AV},(∀ x∈v.leaves,f x=x)->v.map f=v:=by
 have hL:∀ xs:List Lf,(∀ x∈xs,f x=x)->xs.map f=xs:=fun xs h=>by
  have:=List.map_congr_left (g:=id) h
  simpa using this
 have hT:∀ v:TV,(∀ x∈v.leaves,f x=x)->v.map f=v:=fun v h=>by
  cases v with
  | one x=>simp only [TV.map];rw [h x (by simp [TV.leaves])]
  | agg xs=>simp only [TV.map];rw [hL xs h]
 intro v h
 cases v with
 | tv x=>simp only [AV.map];rw [hT x h]
 | clo g xs=>simp only [AV.map];rw [hL xs h]
 | tup xs =>
  simp only [AV.map]
  have:xs.map (TV.map f)=xs:=by
   have:=List.map_congr_left (g:=id) (l:=xs) (f:=TV.map f) fun y hy=>hT y fun x hx=>h x (by
    simp only [AV.leaves,List.mem_flatMap]
    exact ⟨y,hy,hx⟩)
   simpa using this
  rw [this]
theorem RX {f:Lf->Lf} {o:Ob} (h:∀ x:Lf,(match o with | .box cs=>x∈cs | .hole _ _ _ _ y=>x=y | .cut _ _ _ _ y=>x=y | _=>False)->f x=x):o.map f=o:=by
 cases o with
 | box cs =>
  simp only [Ob.map]
  have:=List.map_congr_left (g:=id) (l:=cs) (f:=f) fun y hy=>h y hy
  rw [this]
  simp
 | hole e es c k x=>simp only [Ob.map];rw [h x rfl]
 | cut e e2 c k x=>simp only [Ob.map];rw [h x rfl]
 | _=>rfl
theorem Qv {T:Tm} {f:Lf->Lf} {d:Option Nat} {v:Bool×AV} (hT:T.map f=T) (hv:v.2.map f=v.2):(T.put d v).map f=T.put d v:=by
 cases d with
 | none=>exact hT
 | some d =>
  funext t
  have ht:=congrFun hT t
  simp only [Tm.map] at ht
  simp only [Tm.map,Tm.put]
  cases Nat.beq t d
  ·exact ht
  ·simp only [cond_true];rw [hv]
section
variable {P:Program} {cf:Cfg} {b:Base} {N:Nat} {φ:Nat->Value} {β:Nat->Nat->Prop} {M:Mem} {T:Tm} {H:List Ob} {a:Act} {w w':World}
variable {ops:Array Oper} {o:Oper} {Q:Exit->Act->World->Prop} {rest:List Oper}
theorem MN (h:RA P cf b N φ β M ⟨T,H⟩ a w) (hd:o.dst.all (Nat.blt · N)=true) {t:Nat} (ho:o.op = .alloc t) (hz:cf.sz t≠0) {n:Nat} (hn:n<H.length) (hfx:b.fx.getD n false=false) (hT:T.map (Lf.kill n)=T) (hH:H.map (Ob.map (Lf.kill n))=H) {K:Act->World->Prop}
  (hK:∀ φ' β' a' w',RA P cf b N φ' β' M ⟨T.put o.dst (true,.lf (.ptr n 0)),H.set n (.box ((cf.zero t).map fun v => .b (.val v)))⟩ a' w'->K a' w'):o.wp P a w K Q:=by
 obtain ⟨i,hi,-,-,z,hz1,hz2,-⟩:=h.cf.info t hz
 have hzv:(zeroValue t).run P w = .ok z w:=by
  unfold zeroValue
  simp [run_typeInfo _ hi,hz1]
 unfold Oper.wp
 rw [show (execOp a.eval o).run P w = .ok (.value (.pointer (some ⟨w.heap.size,0,none⟩))) (w.alloc (.cells z.cells t)) by simp [execOp,ho,Instr.alloc,hzv,newVar,newRow]]
 have hb:=iT w (.cells z.cells t)
 have h1:=h.turn (w':=w.alloc (.cells z.cells t)) hn hfx (v := .pointer (some ⟨w.heap.size,0,none⟩)) (o' := .box ((cf.zero t).map fun v => .b (.val v))) (r:=none) (fun g=>g=w.heap.size) ⟨hb.os,hb.tape,hb.output,hb.size,fun k hk _=>hb.block k hk⟩ (fun g hg=>by cases hg) (fun g hg=>⟨by rw [size_alloc];omega,.inr (by omega)⟩)
  ⟨w.heap.size,z.cells,t,rfl,heap_alloc_new w _,by rw [hz2];exact ⟨by simp,fun j hj hj'=>by simp [Lf.rel,B.rel]⟩,rfl⟩ (fun y hy=>by
   simp at hy
   obtain ⟨v,_,rfl⟩:=hy
   rfl)
 simp only [iq,hT,hH] at h1
 exact hK _ _ _ _ (h1.put (d:=o.dst) hd (Mem.le_refl _) h1.new h1.hi h1.below ⟨fun _=>⟨w.heap.size,upd_same _ _ _,rfl⟩,fun hf=>by cases hf⟩ (AV.dL.2 (by simp [Lf.ltB];omega)))
end
theorem Ai {P:Program} {H:List Ob} {T T':Tm} {c:Call} {r:AV} {Hout:List Ob} (h:∀ x∈c.operands,look T' x=look T x) (k:qV P H T c r Hout):qV P H T' c r Hout:=by
 obtain ⟨f,xs,vs,h1,h2,h3,h4⟩:=k
 have ha:∀ x∈c.args.toList,look T' x=look T x:=fun x hx=>h x (Array.mem_append.2 (.inr (Array.mem_toList_iff.1 hx)))
 have hc:bQ T' c=bQ T c:=by
  unfold bQ
  cases e:c.callee with
  | value x=>simp only;rw [h x (by simp [Call.operands,e])]
  | _=>rfl
 refine ⟨f,xs,vs,by rw [hc];exact h1,fun x hx=>by rw [ha x hx];exact h2 x hx,?_,h4⟩
 rw [← h3]
 unfold jF
 rw [mapM_congr (g:=fun x=>fQ H (look T x).2) fun x hx=>by rw [ha x hx]]
theorem MJ {P:Program} {n:Nat} {W:List Nat} {H H':List Ob} {T:Tm} (ha:agree n W H H') {c:Call} {r:AV} {Hout:List Ob} (h:bU n W H T (.call c)=true) (k:qV P H T c r Hout):qV P H' T c r Hout:=by
 obtain ⟨f,xs,vs,h1,h2,h3,h4⟩:=k
 refine ⟨f,xs,vs,h1,h2,?_,h4⟩
 simp only [bU,Bool.and_eq_true,List.all_eq_true] at h
 have hxs:∀ x∈xs,bV n W H x=true:=fun x hx=>by
  simp only [bQ] at h1
  split at h1
  ·rename_i x' hc
   rw [hc] at h
   split at h1
   ·rename_i f' xs' e
    simp only [Option.some.injEq,Prod.mk.injEq] at h1
    obtain ⟨_,e1,e2⟩:=h1
    rw [e1,e2] at e
    exact qp e _ (fun _ _=>rfl) h.1 x hx
   ·cases h1
  ·cases h1
 rw [← h3]
 unfold jF
 rw [mapM_congr fun x hx=>qQ ha (h.2 x hx),mapM_congr fun x hx=>qh ha (hxs x hx)]
def Hst (H0:List Ob) (zs:List Lf) (e:Nat) (c:Cn) (cD fD sD:Bool):List Ob:=H0++((bif fD then (bif sD then Ob.box [.own (H0.length+1)] else .box zs) else .gone)::(bif cD then [.row e c] else []))
section
variable {P:Program} {cf:Cfg} {b:Base} {N:Nat} {ops:Array Oper} {H0:List Ob} {ci e tz:Nat} {c:Cn}
def okF (P:Program) (cf:Cfg) (N:Nat) (ops:Array Oper) (H0:List Ob) (ci e tz:Nat) (c:Cn) (i:Nat) (o:Oper) (T:Tm) (v:Bool×AV):Prop :=
 (i<ci/\iQ o=false/\bU H0.length [] H0 T o.op=true/\jy H0.length [] H0 v.2=true/\oN P cf H0 N ops o T v) \/
 (i=ci/\o.guard=none/\o.dst.all (Nat.blt · N)=true/\v=(true,.lf (.own (H0.length+1)))/\∃ cc,o.op = .call cc/\bU H0.length [] H0 T (.call cc)=true/\qV P H0 T cc (.lf (.own 0)) [.row e c]) \/
 (i=ci+1/\o.guard=none/\o.dst.all (Nat.blt · N)=true/\v=(true,.lf (.ptr H0.length 0))/\o.op = .alloc tz/\cf.sz tz=1) \/
 (i=ci+2/\o.guard=none/\o.dst=none/\∃ t x y,o.op = .store t x y/\cf.sz t=1/\look T x=(true,.lf (.ptr H0.length 0))/\look T y=(true,.lf (.own (H0.length+1))))
theorem VR:DZ ops (okF P cf N ops H0 ci e tz c):=fun i o T T' v h hg k=>by
 rcases k with ⟨h1,h2,h3,h4,h5⟩ | ⟨h1,h2,h3,h4,cc,h5,h6,h7⟩ | h1 | ⟨h1,h2,h3,t,x,y,h4,h5,h6,h7⟩
 ·exact .inl ⟨h1,h2,by rw [oz h];exact h3,h4,nM h hg h5⟩
 ·rw [h5] at h
  exact .inr (.inl ⟨h1,h2,h3,h4,cc,h5,by rw [oz (op := .call cc) h];exact h6,Ai h h7⟩)
 ·exact .inr (.inr (.inl h1))
 ·rw [h4] at h
  simp only [Op.operands] at h
  exact .inr (.inr (.inr ⟨h1,h2,h3,t,x,y,h4,h5,(h x (by simp)).trans h6,(h y (by simp)).trans h7⟩))
theorem Jq {zs:List Lf} {cD fD sD:Bool}:agree H0.length [] H0 (Hst H0 zs e c cD fD sD) :=
 ⟨Nat.le_refl _,by simp [Hst],fun j hj=>by
  simp only [qJ,Bool.and_eq_true,decide_eq_true_eq] at hj
  unfold Hst
  rw [List.getElem?_append_left hj.1]⟩
theorem OM {Qf:Tm->Prop} {Q':Exit->Act->World->Prop} {os:Oper} (hos:ops[ci+2]? = some os) (hwc:∃ e∈os.after,Region.binds .any e=true/\e.on=ci) (hwf:∃ e∈os.after,Region.binds .any e=true/\e.on=ci+1) (hfx:b.fx.getD H0.length false=false) (hH0:H0.map (Ob.map (Lf.kill H0.length))=H0) (hz1:(cf.zero tz).length=1)
  (hQ:∀ φ β M T a w,RA P cf b N φ β M ⟨T,Hst H0 ((cf.zero tz).map fun v => .b (.val v)) e c true true true⟩ a w->Qf T->Q' .normal a w):∀ (fuel:Nat) (listed:Array Bool) (φ:Nat->Value) (β:Nat->Nat->Prop) (M:Mem) (T:Tm) (a:Act) (w:World),listed.size=ops.size->shut ops listed ->
  RA P cf b N φ β M ⟨T,Hst H0 ((cf.zero tz).map fun v => .b (.val v)) e c (listed.getD ci false) (listed.getD (ci+1) false) (listed.getD (ci+2) false)⟩ a w->(listed.getD (ci+1) false=false->T.map (Lf.kill H0.length)=T) ->
  CU ops (okF P cf N ops H0 ci e tz c) (fun listed T=>(∀ j,j<ops.size->listed.getD j false=true)/\Qf T) fuel listed T->wpAny P .any ops Q' fuel listed a w:=by
 have hsz2:=(Array.getElem?_eq_some_iff.1 hos).1
 have hend:∀ (listed:Array Bool) (φ:Nat->Value) (β:Nat->Nat->Prop) (M:Mem) (T:Tm) (a:Act) (w:World),RA P cf b N φ β M ⟨T,Hst H0 ((cf.zero tz).map fun v => .b (.val v)) e c (listed.getD ci false) (listed.getD (ci+1) false) (listed.getD (ci+2) false)⟩ a w->((∀ j,j<ops.size->listed.getD j false=true)/\Qf T)->Q' .normal a w:=fun listed φ β M T a w hR ⟨h1,h2⟩=>by
  rw [h1 ci (by omega),h1 (ci+1) (by omega),h1 (ci+2) hsz2] at hR
  exact hQ _ _ _ _ _ _ hR h2
 intro fuel
 induction fuel with
 | zero =>
  intro listed φ β M T a w hsz hsh hR hT h
  exact ⟨h.1,hend listed φ β M T a w hR h.2⟩
 | succ fuel ih =>
  intro listed φ β M T a w hsz hsh hR hT h
  refine ⟨fun h0=>hend listed φ β M T a w hR (h.1 h0),fun i hi =>?_⟩
  obtain ⟨o,v,ho,h1,h2⟩:=h.2 i hi
  have hsh':=lF hi hsh
  have hiu:=(mem_ready.1 hi).1
  have hil:i<listed.size:=by rw [hsz];exact (Array.getElem?_eq_some_iff.1 ho).1
  have hiu':listed.getD i false=false:=by
   simp [hil] at hiu ⊢
   exact hiu
  have hself:(listed.setIfInBounds i true).getD i false=true:=by simp [hil]
  have hoth:∀ j,j≠i->(listed.setIfInBounds i true).getD j false=listed.getD j false:=fun j hj=>getD_set_ne false (fun e'=>hj e'.symm)
  have hs0:i=ci\/i=ci+1->listed.getD (ci+2) false=false:=fun hc=>by
   cases e1:listed.getD (ci+2) false with
   | false=>rfl
   | true =>
    rcases hc with rfl | rfl
    ·obtain ⟨e2,he,hb,hon⟩:=hwc
     have:=hsh _ os hos e1 e2 he hb
     rw [hon,hiu'] at this
     cases this
    ·obtain ⟨e2,he,hb,hon⟩:=hwf
     have:=hsh _ os hos e1 e2 he hb
     rw [hon,hiu'] at this
     cases this
  unfold wpOp
  rw [ho]
  simp only
  rcases h1 with ⟨k1,k2,k3,k4,k5⟩ | ⟨rfl,k2,k3,k4,cc,k5,k6,k7⟩ | ⟨rfl,k2,k3,k4,k5,k6⟩ | ⟨rfl,k2,k3,t,x,y,k4,k5,k6,k7⟩
  ·have hok':oN P cf (Hst H0 ((cf.zero tz).map fun v => .b (.val v)) e c (listed.getD ci false) (listed.getD (ci+1) false) (listed.getD (ci+2) false)) N ops o T v:=pR Jq k3 k5
   have:=yF (Q:=Q') hR hok' (K:=wpAny P .any ops Q' fuel _) (fun M' a' w' _ hR'=>ih (listed.setIfInBounds i true) φ β M' _ a' w' (by simp [hsz]) hsh' (by rw [hoth ci (by omega),hoth (ci+1) (by omega),hoth (ci+2) (by omega)];exact hR') (fun hf=>by
    rw [hoth (ci+1) (by omega)] at hf
    exact Qv (hT hf) (map_eq fun x hx=>U8 (List.all_eq_true.1 k4 x hx))) h2)
   split
   ·rename_i hw
    rw [if_pos hw] at this
    exact .inl this
   ·rename_i hw
    rw [if_neg hw] at this
    exact this
  ·have hw:Region.wanted o (yielded ops a.tmps)=true:=by simp [Region.wanted,k2]
   rw [if_pos hw]
   left
   have hsf:=hs0 (.inl rfl)
   rw [hiu'] at hR
   subst k4
   have hlen:(Hst H0 ((cf.zero tz).map fun v => .b (.val v)) e c false (listed.getD (i+1) false) (listed.getD (i+2) false)).length=H0.length+1:=by simp [Hst]
   refine CS hR k3 k5 (MJ Jq k6 k7) fun φ' β' a' w' hR'=>ih _ φ' β' M _ a' w' (by simp [hsz]) hsh' ?_ ?_ h2
   ·rw [hself,hoth (i+1) (by omega),hoth (i+2) (by omega)]
    have e1:(AV.lf (.own 0)).map (Lf.ren (cu [] (H0.length+1))) = .lf (.own (H0.length+1)):=by simp [AV.map,TV.map,Lf.ren,cu]
    have e2:Hst H0 ((cf.zero tz).map fun v => .b (.val v)) e c false (listed.getD (i+1) false) (listed.getD (i+2) false)++[Ob.row e c].map (Ob.map (Lf.ren (cu [] (H0.length+1))))=Hst H0 ((cf.zero tz).map fun v => .b (.val v)) e c true (listed.getD (i+1) false) (listed.getD (i+2) false):=by simp [Hst,Ob.map]
    rw [hlen,e1,e2] at hR'
    exact hR'
   ·intro hf
    rw [hoth (i+1) (by omega)] at hf
    refine Qv (hT hf) ?_
    have:Nat.beq (H0.length+1) H0.length=false:=by
     rw [Bool.eq_false_iff]
     intro e
     have:=Nat.eq_of_beq_eq_true e
     omega
    simp only [AV.map,TV.map,Lf.kill,this,cond_false]
  ·have hw:Region.wanted o (yielded ops a.tmps)=true:=by simp [Region.wanted,k2]
   rw [if_pos hw]
   left
   have hsf:=hs0 (.inr rfl)
   rw [hiu'] at hR
   subst k4
   refine MN hR k3 k5 (by omega) (n:=H0.length) (by simp [Hst]) hfx (hT hiu') ?_ fun φ' β' a' w' hR'=>ih _ φ' β' M _ a' w' (by simp [hsz]) hsh' ?_ (fun hf=>by rw [hself] at hf;cases hf) h2
   ·simp only [Hst,List.map_append,hH0,List.map_cons,cond_false]
    cases listed.getD ci false<;>rfl
   ·rw [hself,hoth ci (by omega),hoth (ci+2) (by omega),hsf]
    have e2:(Hst H0 ((cf.zero tz).map fun v => .b (.val v)) e c (listed.getD ci false) false (listed.getD (ci+2) false)).set H0.length (.box ((cf.zero tz).map fun v => .b (.val v)))=Hst H0 ((cf.zero tz).map fun v => .b (.val v)) e c (listed.getD ci false) true false:=by simp [Hst]
    rw [e2] at hR'
    exact hR'
  ·have hw:Region.wanted o (yielded ops a.tmps)=true:=by simp [Region.wanted,k2]
   rw [if_pos hw]
   left
   obtain ⟨_,o2,ho2,hall⟩:=mem_ready.1 hi
   rw [ho] at ho2
   cases ho2
   rw [ho] at hos
   cases hos
   have hcl:listed.getD ci false=true:=by
    obtain ⟨e2,he,hb,hon⟩:=hwc
    rw [← hon]
    exact hall e2 he hb
   have hfl:listed.getD (ci+1) false=true:=by
    obtain ⟨e2,he,hb,hon⟩:=hwf
    rw [← hon]
    exact hall e2 he hb
   rw [hiu',hcl,hfl] at hR
   have hb0:(Hst H0 ((cf.zero tz).map fun v => .b (.val v)) e c true true false)[H0.length]? = some (.box ((cf.zero tz).map fun v => .b (.val v))):=by simp [Hst]
   have hb1:(Hst H0 ((cf.zero tz).map fun v => .b (.val v)) e c true true false)[H0.length+1]? = some (.row e c):=by simp [Hst]
   have hone:Lf.dU (Hst H0 ((cf.zero tz).map fun v => .b (.val v)) e c true true false) (.own (H0.length+1))=true:=by simp [Lf.dU,hb1,Ob.cn]
   refine mg hR k3 k4 (by omega) k6 hb0 k7 rfl (by simp [qX,hb1,Ob.cn]) (by simp [hone]) (by simp [k5]) (by simp [hz1]) fun a' w' hR'=>ih _ φ β M _ a' w' (by simp [hsz]) hsh' ?_ (fun hf=>by rw [hoth (ci+1) (by omega),hfl] at hf;cases hf) (by rw [k3] at h2;exact h2)
   rw [hself,hoth ci (by omega),hoth (ci+1) (by omega),hcl,hfl]
   have e2:(Hst H0 ((cf.zero tz).map fun v => .b (.val v)) e c true true false).set H0.length (.box (splice ((cf.zero tz).map fun v => .b (.val v)) 0 [.own (H0.length+1)]))=Hst H0 ((cf.zero tz).map fun v => .b (.val v)) e c true true true:=by
    match hzz:cf.zero tz,hz1 with
    | [z],_=>simp [Hst,splice]
   rw [e2] at hR'
   exact hR'
def dFr (P:Program) (cf:Cfg) (N:Nat) (ops:Array Oper) (H0:List Ob) (K:Tm->Prop):List Bool->List Oper->Tm->Prop
 | [],_,T=>K T
 | _::_,[],_=>False
 | _::fl,o::l,T=>o.dst.all (Nat.blt · N)=true/\bU H0.length [] H0 T o.op=true/\(guardOf ops o T).1/\(qev cf H0 T (guardOf ops o T).2 o.op).1/\jy H0.length [] H0 (qev cf H0 T (guardOf ops o T).2 o.op).2=true/\dFr P cf N ops H0 K fl l (T.put o.dst ((guardOf ops o T).2,(qev cf H0 T (guardOf ops o T).2 o.op).2))
theorem Po {K:Tm->Prop}:∀ (fl:List Bool) (l:List Oper) (k:Nat) (T:Tm),(l.take fl.length).all (fun o => !iQ o)=true->k+fl.length<=ci->dFr P cf N ops H0 K fl l T->∃ T',K T'/\∀ (e:Nat) (c:Cn) Q,dWI (okF P cf N ops H0 ci e tz c) Q (k+fl.length) (l.drop fl.length) T'->dWI (okF P cf N ops H0 ci e tz c) Q k l T
 | [],l,k,T,_,_,h=>⟨T,h,fun e c Q hd=>hd⟩
 | _::_,[],_,_,_,_,h=>h.elim
 | _::fl,o::l,k,T,hm,hk,h=>by
  obtain ⟨h1,h2,h3,h4,h5,h6⟩:=h
  simp only [List.length_cons,List.take_succ_cons,List.all_cons,Bool.and_eq_true,Bool.not_eq_true'] at hm hk
  obtain ⟨T',k1,k2⟩:=Po fl l (k+1) _ hm.2 (by omega) h6
  refine ⟨T',k1,fun e c Q hd=>⟨_,.inl ⟨by omega,hm.1,h2,h5,h1,h3,rfl,.inr ⟨h4,rfl⟩⟩,k2 e c Q ?_⟩⟩
  rw [show k+1+fl.length=k+(fl.length+1) by omega]
  exact hd
theorem TG {id:Nat} {l:List Oper} {X:St} {Q:Exit->St->Prop} (fl:List Bool) {oc oa os:Oper} {cc:Call} {tz t dc da:Nat} (hm:P.follows .mixedOrders=true) (hB:Region.lexB .any l.toArray=true) (hr:(l.take fl.length).all (fun o => !iQ o)=true) (hl:l.drop fl.length=[oc,oa,os])
  (hc:oc.op = .call cc/\oc.guard=none/\oc.dst=some dc) (ha:oa.op = .alloc tz/\oa.guard=none/\oa.dst=some da) (hs:os.op = .store t (.tmp da) (.tmp dc)/\os.guard=none/\os.dst=none) (hne:Nat.beq dc da=false) (hN:Nat.blt dc N=true/\Nat.blt da N=true) (hz:cf.sz tz=1/\cf.sz t=1)
  (hw:(os.after.any fun e=>Region.binds .any e && e.on == fl.length)=true/\(os.after.any fun e=>Region.binds .any e && e.on == fl.length+1)=true)
  (h:dFr P cf N l.toArray X.H (fun T=>∃ e c,bU X.H.length [] X.H T (.call cc)=true/\qV P X.H T cc (.lf (.own 0)) [.row e c]/\Q .normal ⟨(T.put (some dc) (true,.lf (.own (X.H.length+1)))).put (some da) (true,.lf (.ptr X.H.length 0)),X.H++[.box [.own (X.H.length+1)],.row e c]⟩) fl l X.T):awp P cf b N (.region id l.toArray true) Q X:=fun a w ⟨φ,β,M,hR⟩=>by
 simp only [Region.lexB,Bool.and_eq_true] at hB
 have hll:l.length=fl.length+3:=by
  have:=congrArg List.length hl
  simp at this
  omega
 have hget:∀ k o,[oc,oa,os][k]? = some o->l[fl.length+k]? = some o:=fun k o hk=>by
  rw [← hl,List.getElem?_drop] at hk
  exact hk
 obtain ⟨T0,⟨e,c,hoff,hcb,hQ0⟩,hrun⟩:=Po (P:=P) (cf:=cf) (N:=N) (ops:=l.toArray) (H0:=X.H) (ci:=fl.length) (tz:=tz) fl l 0 X.T hr (by omega) h
 obtain ⟨inf,hinf,hsz,-,z,-,hz2,hz3⟩:=hR.cf.info tz (by omega)
 have hz1:(cf.zero tz).length=1:=by rw [← hz2];simpa using hz3.trans hz.1
 have hfx:b.fx.getD X.H.length false=false:=by
  have:=hR.fix.1
  simp
  rw [List.getElem?_eq_none (by omega)]
  rfl
 have hH0:X.H.map (Ob.map (Lf.kill X.H.length))=X.H:=by
  have:=List.map_congr_left (l:=X.H) (f:=Ob.map (Lf.kill X.H.length)) (g:=fun o=>o) fun o ho=>by
   obtain ⟨i,hi,rfl⟩:=List.getElem_of_mem ho
   have hwf:=hR.hi.wf i _ (List.getElem?_eq_getElem hi)
   refine RX fun x hx=>KA (Nat.le_refl _) ?_
   generalize X.H[i]=o at hwf hx
   cases o with
   | box cs=>exact hwf x hx
   | hole e es c k y=>subst hx;exact hwf
   | cut e e2 c k y=>subst hx;exact hwf
   | _=>exact hx.elim
  simpa using this
 have hX:X.T.map (Lf.kill X.H.length)=X.T:=by
  funext t
  simp only [Tm.map]
  rw [map_eq fun x hx=>KA (Nat.le_refl _) (hR.lt t x hx)]
 obtain ⟨hc1,hc2,hc3⟩:=hc
 obtain ⟨ha1,ha2,ha3⟩:=ha
 obtain ⟨hs1,hs2,hs3⟩:=hs
 have hw1:∃ e∈os.after,Region.binds .any e=true/\e.on=fl.length:=by
  obtain ⟨e,he,h1⟩:=Array.any_eq_true'.1 hw.1
  simp only [Bool.and_eq_true,beq_iff_eq] at h1
  exact ⟨e,he,h1⟩
 have hw2:∃ e∈os.after,Region.binds .any e=true/\e.on=fl.length+1:=by
  obtain ⟨e,he,h1⟩:=Array.any_eq_true'.1 hw.2
  simp only [Bool.and_eq_true,beq_iff_eq] at h1
  exact ⟨e,he,h1⟩
 have hcat:Nat.blt dc N=true:=hN.1
 have hW:=hrun e c (fun T=>Q .normal ⟨T,Hst X.H ((cf.zero tz).map fun v => .b (.val v)) e c true true true⟩) (by
  rw [hl,Nat.zero_add]
  refine ⟨(true,.lf (.own (X.H.length+1))),.inr (.inl ⟨rfl,hc2,by rw [hc3];exact hN.1,rfl,cc,hc1,hoff,hcb⟩),(true,.lf (.ptr X.H.length 0)),.inr (.inr (.inl ⟨rfl,ha2,by rw [ha3];exact hN.2,rfl,ha1,hz.1⟩)),(true,.und),.inr (.inr (.inr ⟨rfl,hs2,hs3,t,.tmp da,.tmp dc,hs1,hz.2,?_,?_⟩)),?_⟩
  ·rw [hc3,ha3]
   simp [look,Tm.put]
  ·rw [hc3,ha3]
   simp [look,Tm.put,hne]
  ·rw [hc3,ha3,hs3]
   exact hQ0)
 refine wp_region_any hm ?_
 refine OM (P:=P) (cf:=cf) (b:=b) (N:=N) (ops:=l.toArray) (H0:=X.H) (ci:=fl.length) (e:=e) (tz:=tz) (c:=c) (Qf:=fun T=>Q .normal ⟨T,Hst X.H ((cf.zero tz).map fun v => .b (.val v)) e c true true true⟩) (os:=os) (by simpa using hget 2 os rfl) hw1 hw2 hfx hH0 hz1 (fun φ' β' M' T' a' w' hR' hQ=>⟨_,hQ,φ',β',M',hR'⟩) _ _ (upd φ X.H.length undef) (dI β X.H.length fun _=>False) M X.T a _ (by simp) (fun i o ho hi=>by
   exfalso
   rcases Nat.lt_or_ge i l.length with h' | h'
   ·simp [h'] at hi
   ·simp [h'] at hi) ?_ (fun _=>hX) ?_
 ·have hf:∀ j,j<l.length->(Array.replicate l.toArray.size false).getD j false=false:=fun j hj=>by simp [hj]
  rw [hf _ (by omega),hf _ (by omega),hf _ (by omega)]
  have:=(hR.grow (w':=w) (Below.refl _ _) (o := .gone) (v:=undef) (fun _=>False) (fun g hg=>hg.elim) trivial trivial).draw
  exact this
 ·have:=pG (ops:=l.toArray) (ok:=okF P cf N l.toArray X.H fl.length e tz c) VR (Q:=fun listed T=>(∀ j,j<l.toArray.size->listed.getD j false=true)/\Q .normal ⟨T,Hst X.H ((cf.zero tz).map fun v => .b (.val v)) e c true true true⟩) (Q0:=fun T=>Q .normal ⟨T,Hst X.H ((cf.zero tz).map fun v => .b (.val v)) e c true true true⟩) (fun listed T h5 h6=>⟨h5,h6⟩) l 0 (Array.replicate l.toArray.size false) X.T (by simp) (by simp) (fun j hj=>by omega) (by simpa using hB.2) hW
  simpa using this
end
theorem TP:Nat.blt 0 1=true/\Nat.blt 0 2=true/\Nat.blt 1 2=true/\Nat.blt 0 3=true/\Nat.blt 1 3=true/\Nat.blt 2 3=true/\Nat.blt 0 6=true/\Nat.blt 1 6=true/\Nat.blt 2 6=true/\Nat.blt 3 6=true/\Nat.blt 4 6=true/\Nat.blt 5 6=true:=by decide
theorem acL {P:Program} {H:List Ob} {T:Tm} {cc:Call} {f e:Nat} {xs:List Lf} {vs:List AV} {c:Cn} (h:bP P f vs [] [] (.lf (.own 0)) [.row e c]) (h1:bQ T cc=some (true,f,xs)) (h2:(cc.args.toList.all fun x=>(look T x).1)=true) (h3:jF H T cc xs=some vs) (h4:c.flat=true) (h5:vs.all AV.free=true):qV P H T cc (.lf (.own 0)) [.row e c] :=
 ⟨f,xs,vs,h1,List.all_eq_true.1 h2,h3,h,rfl,by simp [Ob.mf,h4],h5⟩
end Am
end Go.Proofs.YtnblieajjclipaaGreat
