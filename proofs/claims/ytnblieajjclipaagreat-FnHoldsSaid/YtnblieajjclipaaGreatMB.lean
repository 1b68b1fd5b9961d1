/- Memory that the call owns: new variables, slices made, appended to, stored into, and given away. Conditions: those that each names. -/
import Derived.Test.YtnblieajjclipaaGreatMA
set_option linter.all false
namespace Go.Proofs.YtnblieajjclipaaGreat
namespace Am
open Go Go.RowKit
theorem iF {n m:Nat} (h:n<=m) {x:Lf} (hx:x.ltB n=true):x.ltB m=true:=by
 cases x<;>simp [Lf.ltB] at hx ⊢<;>omega
theorem AV.Qd {n m:Nat} (h:n<=m) {x:AV} (hx:x.lt n):x.lt m:=fun y hy=>iF h (hx y hy)
theorem Ob.Qd {n m:Nat} (h:n<=m) {o:Ob} (ho:o.lt n):o.lt m:=by
 cases o with
 | box cs=>exact fun y hy=>iF h (ho y hy)
 | hole e es c k x=>exact iF h ho
 | cut e e2 c k x=>exact iF h ho
 | _=>trivial
def upd (φ:Nat->Value) (i:Nat) (v:Value):Nat->Value:=fun j=>bif Nat.beq j i then v else φ j
theorem upd_same (φ:Nat->Value) (i:Nat) (v:Value):upd φ i v i=v:=by simp [upd]
theorem upd_ne (φ:Nat->Value) {i j:Nat} (v:Value) (h:j≠i):upd φ i v j=φ j:=by
 have:Nat.beq j i=false:=by rw [Bool.eq_false_iff];exact fun k=>h (Nat.eq_of_beq_eq_true k)
 simp [upd,this]
def dI (β:Nat->Nat->Prop) (i:Nat) (S:Nat->Prop):Nat->Nat->Prop:=fun j g=>(j=i/\S g)\/(j≠i/\β j g)
theorem aS (β:Nat->Nat->Prop) (i:Nat) (S:Nat->Prop):dI β i S i=S:=by
 funext g
 simp [dI]
theorem bG (β:Nat->Nat->Prop) {i j:Nat} (S:Nat->Prop) (h:j≠i):dI β i S j=β j:=by
 funext g
 simp [dI,h]
def TV.map (f:Lf->Lf):TV->TV
 | .one x => .one (f x)
 | .agg xs => .agg (xs.map f)
def AV.map (f:Lf->Lf):AV->AV
 | .tv x => .tv (x.map f)
 | .clo g xs => .clo g (xs.map f)
 | .tup xs => .tup (xs.map (TV.map f))
def Tm.map (f:Lf->Lf) (T:Tm):Tm:=fun t=>((T t).1,(T t).2.map f)
def Ob.map (f:Lf->Lf):Ob->Ob
 | .box cs => .box (cs.map f)
 | .hole e es c k x => .hole e es c k (f x)
 | .cut e e2 c k x => .cut e e2 c k (f x)
 | x=>x
theorem yx (f:Lf->Lf) (hf:f .und = .und):∀ L:List (Nat×Bool×AV),(tab L).map f=tab (L.map fun p=>(p.1,p.2.1,p.2.2.map f))
 | []=>by funext t;simp [Tm.map,tab,AV.map,TV.map,hf]
 | (s,v)::L=>by
  funext t
  have:=congrFun (yx f hf L) t
  simp only [Tm.map] at this ⊢
  simp only [tab,List.map_cons]
  cases Nat.beq t s with
  | true=>rfl
  | false=>simpa using this
theorem AV.og {φ φ':Nat->Value} {M M':Mem} {f:Lf->Lf} {x:AV} {u:Value} (h:x.rel φ M u) (k:∀ y∈x.leaves,∀ u,y.rel φ M u->(f y).rel φ' M' u):(x.map f).rel φ' M' u:=by
 have hL:∀ (xs:List Lf) (us:List Value),(∀ y∈xs,∀ u,y.rel φ M u->(f y).rel φ' M' u)->gQ φ M xs us->gQ φ' M' (xs.map f) us:=fun xs us k h =>
  ⟨by simp [h.1],fun j hj hj'=>by rw [List.getElem_map];exact k _ (List.getElem_mem _) _ (h.2 j (by simpa using hj) hj')⟩
 have hT:∀ (x:TV) (u:Value),(∀ y∈x.leaves,∀ u,y.rel φ M u->(f y).rel φ' M' u)->x.rel φ M u->(x.map f).rel φ' M' u:=fun x u k h=>by
  cases x with
  | one x=>exact k x (by simp [TV.leaves]) u h
  | agg xs =>
   obtain ⟨us,e,h1⟩:=h
   exact ⟨us,e,hL xs us k h1⟩
 cases x with
 | tv x=>exact hT x u k h
 | clo g xs =>
  obtain ⟨us,e,h1⟩:=h
  exact ⟨us,e,hL xs us k h1⟩
 | tup xs =>
  obtain ⟨us,e,h1,h2⟩:=h
  refine ⟨us,e,by simp [h1],fun j hj hj' =>?_⟩
  rw [List.getElem_map]
  exact hT _ _ (fun y hy u hu=>k y (by simp only [AV.leaves,List.mem_flatMap];exact ⟨_,List.getElem_mem _,hy⟩) u hu) (h2 j (by simpa using hj) hj')
theorem AV.map_lt {f:Lf->Lf} {x:AV} {n m:Nat} (h:x.lt n) (k:∀ y:Lf,y.ltB n=true->(f y).ltB m=true):(x.map f).lt m:=by
 intro y hy
 have hT:∀ (x:TV),(∀ y∈x.leaves,y.ltB n=true)->∀ y∈(x.map f).leaves,y.ltB m=true:=fun x h y hy=>by
  cases x with
  | one x =>
   simp only [TV.map,TV.leaves,List.mem_singleton] at hy
   subst hy
   exact k x (h x (by simp [TV.leaves]))
  | agg xs =>
   simp only [TV.map,TV.leaves,List.mem_map] at hy
   obtain ⟨z,hz,rfl⟩:=hy
   exact k z (h z hz)
 cases x with
 | tv x=>exact hT x h y hy
 | clo g xs =>
  simp only [AV.map,AV.leaves,List.mem_map] at hy
  obtain ⟨z,hz,rfl⟩:=hy
  exact k z (h z hz)
 | tup xs =>
  simp only [AV.map,AV.leaves,List.mem_flatMap,List.mem_map] at hy
  obtain ⟨_,⟨z,hz,rfl⟩,hy⟩:=hy
  exact hT z (fun y hy=>h y (by simp only [AV.leaves,List.mem_flatMap];exact ⟨z,hz,hy⟩)) y hy
theorem TV.map_id (x:TV):x.map id=x:=by cases x<;>simp [TV.map]
theorem AV.map_id (x:AV):x.map id=x:=by
 cases x with
 | tv x=>simp [AV.map,TV.map_id]
 | clo g xs=>simp [AV.map]
 | tup xs =>
  simp only [AV.map,AV.tup.injEq]
  rw [show TV.map id=id from funext TV.map_id,List.map_id]
theorem Tm.map_id (T:Tm):T.map id=T:=by funext t;simp [Tm.map,AV.map_id]
theorem Ob.map_id (o:Ob):o.map id=o:=by cases o<;>simp [Ob.map]
section
variable {P:Program} {cf:Cfg} {b:Base} {N:Nat} {φ:Nat->Value} {β:Nat->Nat->Prop} {M:Mem} {T:Tm} {H:List Ob} {a:Act} {w w':World}
theorem Ob.og {S:Nat->Prop} {φ':Nat->Value} {M':Mem} {f:Lf->Lf} {ob:Ob} {u:Value} {n:Nat} (hl:ob.lt n) (hm:M.le M') (h:ob.rel φ S M w u) (k:∀ y:Lf,y.ltB n=true->∀ u,y.rel φ M u->(f y).rel φ' M' u):(ob.map f).rel φ' S M' w u:=by
 cases ob with
 | gone=>trivial
 | box cs =>
  obtain ⟨g,arr,t,h1,h2,⟨h3,h4⟩,h5⟩:=h
  exact ⟨g,arr,t,h1,h2,⟨by simp [h3],fun j hj hj'=>by rw [List.getElem_map];exact k _ (hl _ (List.getElem_mem _)) _ (h4 j (by simpa using hj) hj')⟩,h5⟩
 | row e c =>
  obtain ⟨vs,h1,h2,h3⟩:=h
  exact ⟨vs,h1,Cn.aX hm h2,h3⟩
 | tree es c=>exact h
 | hole e es c j x=>exact mX.imp h fun v hv=>k x hl v hv
 | cut e e2 c j x=>exact rG.imp h hm fun v hv=>k x hl v hv
theorem Ob.map_lt {f:Lf->Lf} {ob:Ob} {n m:Nat} (h:ob.lt n) (k:∀ y:Lf,y.ltB n=true->(f y).ltB m=true):(ob.map f).lt m:=by
 cases ob with
 | box cs =>
  intro y hy
  simp only [List.mem_map] at hy
  obtain ⟨z,hz,rfl⟩:=hy
  exact k z (h z hz)
 | hole e es c j x=>exact k x h
 | cut e e2 c j x=>exact k x h
 | _=>trivial
theorem RA.HY (h:RA P cf b N φ β M ⟨T,H⟩ a w) (f:Lf->Lf) (I:Nat->Prop) {φ':Nat->Value} {β':Nat->Nat->Prop} {M':Mem} {H':List Ob} (hw:Kept (fun g=>∃ i,i<H.length/\I i/\β i g) w w') (hlen:H.length<=H'.length)
  (hm:M.le M') (hmem:∀ ad v,M' ad=some v->w'.cell? ad=some v/\(M ad=some v\/w.heap.size<=ad.block\/∃ i,i<H.length/\I i/\β i ad.block))
  (hoff:∀ i g,i<H'.length->H.length<=i\/I i->β' i g->∀ ad v,M' ad=some v->ad.block≠g)
  (hf:∀ y:Lf,y.ltB H.length=true->∀ u,y.rel φ M u->(f y).rel φ' M' u) (hfl:∀ y:Lf,y.ltB H.length=true->(f y).ltB H'.length=true)
  (hold:∀ i o,H[i]? = some o->¬ I i->H'[i]? = some (o.map f)/\φ' i=φ i/\β' i=β i)
  (hnew:∀ i o,H'[i]? = some o->H.length<=i\/I i->o.rel φ' (β' i) M' w' (φ' i)/\o.lt H'.length)
  (hβ:∀ i g,i<H'.length->H.length<=i\/I i->β' i g->g<w'.heap.size/\(w.heap.size<=g\/∃ k,k<H.length/\I k/\β k g))
  (hinj:∀ i j g,i<H'.length->j<H'.length->H.length<=i\/I i->H.length<=j\/I j->β' i g->β' j g->i=j)
  (hfix:∀ i,b.fx.getD i false=true->φ' i=φ i):RA P cf b N φ' β' M' ⟨T.map f,H'⟩ a w':=by
 have hob:∀ i,i<H.length->∃ o,H[i]? = some o:=fun i hi=>⟨H[i],List.getElem?_eq_getElem hi⟩
 have hcase:∀ i,i<H'.length->(i<H.length/\¬ I i)\/(H.length<=i\/I i):=fun i _=>by
  rcases Nat.lt_or_ge i H.length with h1 | h1
  ·by_cases h2:I i
   ·exact .inr (.inr h2)
   ·exact .inl ⟨h1,h2⟩
  ·exact .inr (.inl h1)
 have hbo:∀ i,i<H.length->¬ I i->β' i=β i:=fun i hi hn=>by
  obtain ⟨o,ho⟩:=hob i hi
  exact (hold i o ho hn).2.2
 have hpo:∀ i,i<H.length->¬ I i->φ' i=φ i:=fun i hi hn=>by
  obtain ⟨o,ho⟩:=hob i hi
  exact (hold i o ho hn).2.1
 refine ⟨h.cf,Mem.le_trans h.le hm,fun ad v e =>?_,⟨fun ad u e=>(hmem ad u e).1,fun i o hi =>?_,fun i g hi hg ad u e =>?_,fun i j g hi hj hg hg' =>?_,fun i g hi hg =>?_,fun i o hi =>?_⟩,fun t=>⟨fun ht=>AV.og ((h.t t).1 ht) fun y hy u hu=>hf y (h.lt t y hy) u hu,(h.t t).2⟩,fun t=>AV.map_lt (h.lt t) hfl,fun i g hi hg =>?_,h.size,?_,⟨Nat.le_trans h.fix.1 hlen,fun i hi=>(hfix i hi).trans (h.fix.2 i hi)⟩,h.defers⟩
 ·rcases (hmem ad v e).2 with h1 | h1 | ⟨i,h1,_,h2⟩
  ·exact h.new ad v h1
  ·exact .inr (.inl (Nat.le_trans h.below.size h1))
  ·exact .inr (h.own i ad.block h1 h2)
 ·rcases hcase i (List.getElem?_eq_some_iff.1 hi).1 with ⟨h1,h2⟩ | h1
  ·obtain ⟨o0,ho⟩:=hob i h1
   obtain ⟨k1,k2,k3⟩:=hold i o0 ho h2
   rw [hi] at k1
   cases k1
   rw [k2,k3]
   refine Ob.og (h.hi.wf i o0 ho) hm (Ob.rel_keep (h.hi.ob i o0 ho) fun g hg=>hw.block g (h.hi.lt i g h1 hg) fun ⟨j,h3,h4,h5⟩=>h2 ?_) hf
   rw [h.hi.inj i j g h1 h3 hg h5]
   exact h4
  ·exact (hnew i o hi h1).1
 ·rcases hcase i hi with ⟨h1,h2⟩ | h1
  ·rw [hbo i h1 h2] at hg
   rcases (hmem ad u e).2 with h3 | h3 | ⟨k,h3,h4,h5⟩
   ·exact h.hi.off i g h1 hg ad u h3
   ·have:=h.hi.lt i g h1 hg
    omega
   ·intro e2
    exact h2 (by rw [h.hi.inj i k g h1 h3 hg (by rw [← e2];exact h5)];exact h4)
  ·exact hoff i g hi h1 hg ad u e
 ·rcases hcase i hi with ⟨h1,h2⟩ | h1<;>rcases hcase j hj with ⟨k1,k2⟩ | k1
  ·rw [hbo i h1 h2] at hg
   rw [hbo j k1 k2] at hg'
   exact h.hi.inj i j g h1 k1 hg hg'
  ·rw [hbo i h1 h2] at hg
   have hlt:=h.hi.lt i g h1 hg
   rcases (hβ j g hj k1 hg').2 with h3 | ⟨k,h3,h4,h5⟩
   ·omega
   ·exact (h2 (by rw [h.hi.inj i k g h1 h3 hg h5];exact h4)).elim
  ·rw [hbo j k1 k2] at hg'
   have hlt:=h.hi.lt j g k1 hg'
   rcases (hβ i g hi h1 hg).2 with h3 | ⟨k,h3,h4,h5⟩
   ·omega
   ·exact (k2 (by rw [h.hi.inj j k g k1 h3 hg' h5];exact h4)).elim
  ·exact hinj i j g hi hj h1 k1 hg hg'
 ·rcases hcase i hi with ⟨h1,h2⟩ | h1
  ·rw [hbo i h1 h2] at hg
   exact Nat.lt_of_lt_of_le (h.hi.lt i g h1 hg) hw.size
  ·exact (hβ i g hi h1 hg).1
 ·rcases hcase i (List.getElem?_eq_some_iff.1 hi).1 with ⟨h1,h2⟩ | h1
  ·obtain ⟨o0,ho⟩:=hob i h1
   obtain ⟨k1,_⟩:=hold i o0 ho h2
   rw [hi] at k1
   cases k1
   exact Ob.map_lt (h.hi.wf i o0 ho) hfl
  ·exact (hnew i o hi h1).2
 ·rcases hcase i hi with ⟨h1,h2⟩ | h1
  ·rw [hbo i h1 h2] at hg
   exact h.own i g h1 hg
  ·rcases (hβ i g hi h1 hg).2 with h3 | ⟨k,h3,_,h4⟩
   ·exact .inl (Nat.le_trans h.below.size h3)
   ·exact h.own k g h3 h4
 ·exact h.below.trans hw fun g ⟨i,h1,_,h2⟩=>h.own i g h1 h2
theorem RA.change (h:RA P cf b N φ β M ⟨T,H⟩ a w) (f:Lf->Lf) (I:Nat->Prop) {φ':Nat->Value} {β':Nat->Nat->Prop} {H':List Ob} (hw:Kept (fun g=>∃ i,i<H.length/\I i/\β i g) w w') (hlen:H.length<=H'.length)
  (hf:∀ y:Lf,y.ltB H.length=true->∀ u,y.rel φ M u->(f y).rel φ' M u) (hfl:∀ y:Lf,y.ltB H.length=true->(f y).ltB H'.length=true)
  (hold:∀ i o,H[i]? = some o->¬ I i->H'[i]? = some (o.map f)/\φ' i=φ i/\β' i=β i)
  (hnew:∀ i o,H'[i]? = some o->H.length<=i\/I i->o.rel φ' (β' i) M w' (φ' i)/\o.lt H'.length)
  (hβ:∀ i g,i<H'.length->H.length<=i\/I i->β' i g->g<w'.heap.size/\(w.heap.size<=g\/∃ k,k<H.length/\I k/\β k g))
  (hinj:∀ i j g,i<H'.length->j<H'.length->H.length<=i\/I i->H.length<=j\/I j->β' i g->β' j g->i=j)
  (hfix:∀ i,b.fx.getD i false=true->φ' i=φ i):RA P cf b N φ' β' M ⟨T.map f,H'⟩ a w' :=
 h.HY f I hw hlen (Mem.le_refl _) (fun ad v e=>⟨by
  rw [World.cell?_of_block (hw.block ad.block (DU h.hi e) fun ⟨i,h1,_,h2⟩=>h.hi.off i ad.block h1 h2 ad v e rfl)]
  exact h.hi.mem ad v e,.inl e⟩) (fun i g hi hc hg ad v e=>by
  have hlt:=DU h.hi e
  rcases (hβ i g hi hc hg).2 with h3 | ⟨k,h3,_,h4⟩
  ·omega
  ·exact h.hi.off k g h3 h4 ad v e) hf hfl hold hnew hβ hinj hfix
theorem Au (h:RA P cf b N φ β M ⟨T,H⟩ a w) {i:Nat} (hi:b.fx.getD i false=true):i<H.length:=by
 refine Nat.lt_of_lt_of_le ?_ h.fix.1
 rcases Nat.lt_or_ge i b.fx.length with h1 | h1
 ·exact h1
 ·rw [List.getD_eq_getElem?_getD,List.getElem?_eq_none h1] at hi
  cases hi
theorem RA.grow (h:RA P cf b N φ β M ⟨T,H⟩ a w) (hb:Below w.heap.size w w') {o:Ob} {v:Value} (S:Nat->Prop) (hv:∀ g,S g->w.heap.size<=g/\g<w'.heap.size) (ho:o.rel φ S M w' v) (hl:o.lt H.length) :
  RA P cf b N (upd φ H.length v) (dI β H.length S) M ⟨T,H++[o]⟩ a w':=by
 have hφ:∀ i,i<H.length->upd φ H.length v i=φ i:=fun i hi=>upd_ne φ v (by omega)
 have hone:∀ i,i<(H++[o]).length->H.length<=i\/False->i=H.length:=fun i hi hc=>by
  rw [List.length_append,List.length_singleton] at hi
  rcases hc with hc | hc
  ·omega
  ·exact hc.elim
 have:=h.change (w':=w') id (fun _=>False) (φ':=upd φ H.length v) (β':=dI β H.length S) (H':=H++[o]) ⟨hb.os,hb.tape,hb.output,hb.size,fun k hk _=>hb.block k hk⟩ (by simp)
  (fun y hy u hu=>Lf.jK hy hφ hu) (fun y hy=>iF (by simp) hy)
  (fun i p hi _=>by
   have hlt:=(List.getElem?_eq_some_iff.1 hi).1
   exact ⟨by rw [List.getElem?_append_left hlt,Ob.map_id];exact hi,hφ i hlt,bG _ _ (by omega)⟩)
  (fun i p hi hc=>by
   obtain rfl:=hone i (List.getElem?_eq_some_iff.1 hi).1 hc
   rw [List.getElem?_append_right (Nat.le_refl _),Nat.sub_self] at hi
   cases hi
   rw [aS,upd_same]
   refine ⟨?_,Ob.Qd (by simp) hl⟩
   have:=Ob.og (f:=id) hl (Mem.le_refl M) ho (φ':=upd φ H.length v) fun y hy u hu=>Lf.jK hy hφ hu
   rwa [Ob.map_id] at this)
  (fun i g hi hc hg=>by
   obtain rfl:=hone i hi hc
   rw [aS] at hg
   exact ⟨(hv g hg).2,.inl (hv g hg).1⟩)
  (fun i j g hi hj hc hc' _ _=>by rw [hone i hi hc,hone j hj hc'])
  (fun i hi=>hφ i (Au h hi))
 rwa [Tm.map_id] at this
theorem WT {i j:Nat} {o' p:Ob} (hil:i<H.length) (hj:(H.set i o')[j]? = some p):(j≠i/\H[j]? = some p)\/(j=i/\p=o'):=by
 rw [List.getElem?_set] at hj
 split at hj
 ·rename_i e
  subst e
  simp [hil] at hj
  exact .inr ⟨rfl,hj.symm⟩
 ·rename_i e
  exact .inl ⟨fun k=>e k.symm,hj⟩
theorem RA.set (h:RA P cf b N φ β M ⟨T,H⟩ a w) {i:Nat} (hil:i<H.length) {o':Ob} {r:Option Nat} (hw:w.grownBy w' r) (hr:∀ g,r=some g->β i g) (ho:o'.rel φ (β i) M w' (φ i)) (hlt:o'.lt H.length) :
  RA P cf b N φ β M ⟨T,H.set i o'⟩ a w':=by
 have hlen:(H.set i o').length=H.length:=by simp
 have hone:∀ j,j<(H.set i o').length->H.length<=j\/j=i->j=i:=fun j hj hc=>by rcases hc with hc | hc<;>omega
 have:=h.change (w':=w') id (fun j=>j=i) (φ':=φ) (β':=β) (H':=H.set i o') ⟨hw.os,hw.tape,hw.output,hw.size,fun k hk hn=>hw.block k hk fun e=>hn ⟨i,hil,rfl,hr k e.symm⟩⟩ (by simp)
  (fun y hy u hu=>hu) (fun y hy=>by rw [hlen];exact hy)
  (fun j p hj hne=>by
   refine ⟨?_,rfl,rfl⟩
   rw [List.getElem?_set,if_neg (fun e=>hne e.symm),Ob.map_id]
   exact hj)
  (fun j p hj hc=>by
   obtain rfl:=hone j (List.getElem?_eq_some_iff.1 hj).1 hc
   rcases WT hil hj with ⟨hne,_⟩ | ⟨_,rfl⟩
   ·exact (hne rfl).elim
   ·exact ⟨ho,by rw [hlen];exact hlt⟩)
  (fun j g hj hc hg=>by
   obtain rfl:=hone j hj hc
   exact ⟨Nat.lt_of_lt_of_le (h.hi.lt j g hil hg) hw.size,.inr ⟨j,hil,rfl,hg⟩⟩)
  (fun j k g hj hk hc hc' _ _=>by rw [hone j hj hc,hone k hk hc'])
  (fun j _=>rfl)
 rwa [Tm.map_id] at this
end
section
variable {P:Program} {cf:Cfg} {b:Base} {N:Nat} {φ:Nat->Value} {β:Nat->Nat->Prop} {M:Mem} {T:Tm} {H:List Ob} {a:Act} {w w':World}
def cellsOf:AV->Option (List Lf)
 | .tv (.agg xs)=>some xs
 | .tv (.one (.b (.val v)))=>bif kZ v then some [.b (.val v)] else none
 | .tv (.one (.b (.sl c)))=>some [.b (.sl c)]
 | .tv (.one (.b (.raw c)))=>some [.b (.raw c)]
 | .tv (.one (.b (.fn f c)))=>some [.b (.fn f c)]
 | .tv (.one (.own i))=>some [.own i]
 | .tv (.one (.ptr i o))=>some [.ptr i o]
 | .tv (.one (.ip xs o))=>some [.ip xs o]
 | _=>none
theorem Aj {v:AV} {cs:List Lf} {u:Value} (e:cellsOf v=some cs) (h:v.rel φ M u) (hS:HI φ β M H w) (hlt:v.lt H.length) (hliv:∀ i,v = .tv (.one (.own i))->∃ c,(H[i]?).bind Ob.cn=some c):gQ φ M cs u.cells.toList:=by
 unfold cellsOf at e
 split at e
 ·cases e
  obtain ⟨us,rfl,h1⟩:=h
  exact h1
 ·rename_i v'
  cases hv:kZ v' with
  | false=>rw [hv] at e;cases e
  | true =>
   rw [hv] at e
   cases e
   have:u=v':=h
   subst this
   exact jE h hv
 ·cases e
  refine jE h ?_
  obtain ⟨vs,⟨A,c,e,_⟩,_⟩:=B.jB.1 h
  rw [e]
  rfl
 ·cases e
  refine jE h ?_
  obtain ⟨vs,⟨A,c,e,_⟩,_⟩:=h
  rw [e]
  rfl
 ·cases e
  refine jE h ?_
  obtain ⟨us,e,_⟩:=h
  rw [e]
  rfl
 ·rename_i i
  cases e
  refine jE h ?_
  obtain ⟨c,hi⟩:=hliv i rfl
  obtain ⟨e,vs,h1,_⟩:=hS.cn hi
  rw [show u=φ i from h]
  rcases h1.2 with ⟨h2,_⟩ | ⟨g,cap,cur,h2,_⟩<;>rw [h2]<;>rfl
 ·cases e
  refine jE h ?_
  obtain ⟨g,_,e⟩:=h
  rw [e]
  rfl
 ·cases e
  refine jE h ?_
  obtain ⟨ad,e,_⟩:=h
  rw [e]
  rfl
 ·cases e
theorem CJ {v:AV} {cs:List Lf} {n:Nat} (e:cellsOf v=some cs) (h:v.lt n):∀ y∈cs,y.ltB n=true:=by
 unfold cellsOf at e
 split at e
 ·cases e;exact h
 ·rename_i v'
  cases hv:kZ v' with
  | false=>rw [hv] at e;cases e
  | true=>rw [hv] at e;cases e;exact h
 ·cases e;exact h
 ·cases e;exact h
 ·cases e;exact h
 ·cases e;exact h
 ·cases e;exact h
 ·cases e;exact h
 ·cases e
def qX (H:List Ob):AV->Bool
 | .tv (.one (.own i))=>match (H[i]?).bind Ob.cn with
  | some _=>true
  | none=>false
 | _=>true
theorem D8 {v:AV} (h:qX H v=true):∀ i,v = .tv (.one (.own i))->∃ c,(H[i]?).bind Ob.cn=some c:=fun i e=>by
 subst e
 simp only [qX] at h
 split at h
 ·rename_i c hc;exact ⟨c,hc⟩
 ·cases h
variable {ops:Array Oper} {o:Oper} {Q:Exit->Act->World->Prop} {rest:List Oper} {K:Act->World->Prop}
theorem iT (w:World) (ob:Obj):Below w.heap.size w (w.alloc ob):=(Below.refl _ _).alloc (Nat.le_refl _) _
theorem size_alloc (w:World) (ob:Obj):(w.alloc ob).heap.size=w.heap.size+1:=by simp
theorem Uf (h:RA P cf b N φ β M ⟨T,H⟩ a w) (hd:o.dst.all (Nat.blt · N)=true) {cs:List Lf} {arr:Array Value} {t:Nat} (hrun:(execOp a.eval o).run P w = .ok (.value (.pointer (some ⟨w.heap.size,0,none⟩))) (w.alloc (.cells arr t))) (hcs:gQ φ M cs arr.toList) (hlt:∀ y∈cs,y.ltB H.length=true)
  (hK:∀ φ' β' a' w',RA P cf b N φ' β' M ⟨T.put o.dst (true,.lf (.ptr H.length 0)),H++[.box cs]⟩ a' w'->K a' w'):o.wp P a w K Q:=by
 unfold Oper.wp
 rw [hrun]
 have h1:=h.grow (iT w (.cells arr t)) (o := .box cs) (v := .pointer (some ⟨w.heap.size,0,none⟩)) (fun g=>g=w.heap.size) (fun g hg=>by rw [size_alloc];omega) ⟨w.heap.size,arr,t,rfl,heap_alloc_new w _,hcs,rfl⟩ hlt
 exact hK _ _ _ _ (h1.put (d:=o.dst) hd (Mem.le_refl _) h1.new h1.hi h1.below ⟨fun _=>⟨w.heap.size,upd_same _ _ _,rfl⟩,fun hf=>by cases hf⟩ (AV.dL.2 (by simp [Lf.ltB])))
theorem JK (h:RA P cf b N φ β M ⟨T,H⟩ a w) (hd:o.dst.all (Nat.blt · N)=true) {t:Nat} (ho:o.op = .alloc t) (hz:cf.sz t≠0)
  (hK:∀ φ' β' a' w',RA P cf b N φ' β' M ⟨T.put o.dst (true,.lf (.ptr H.length 0)),H++[.box ((cf.zero t).map fun v => .b (.val v))]⟩ a' w'->K a' w'):o.wp P a w K Q:=by
 obtain ⟨i,hi,-,-,z,hz1,hz2,-⟩:=h.cf.info t hz
 have hzv:(zeroValue t).run P w = .ok z w:=by
  unfold zeroValue
  simp [run_typeInfo _ hi,hz1]
 refine Uf h hd (t:=t) (arr:=z.cells) ?_ ?_ ?_ hK
 ·simp [execOp,ho,Instr.alloc,hzv,newVar,newRow]
 ·rw [hz2]
  exact ⟨by simp,fun j hj hj'=>by simp [Lf.rel,B.rel]⟩
 ·intro y hy
  simp at hy
  obtain ⟨v,_,rfl⟩:=hy
  rfl
theorem Zt (h:RA P cf b N φ β M ⟨T,H⟩ a w) (hd:o.dst.all (Nat.blt · N)=true) {t:Nat} {x:Operand} (ho:o.op = .box t x) {v:AV} (hx:look T x=(true,v)) {cs:List Lf} (hcs:cellsOf v=some cs) (hown:qX H v=true)
  (hK:∀ φ' β' a' w',RA P cf b N φ' β' M ⟨T.put o.dst (true,.lf (.ptr H.length 0)),H++[.box cs]⟩ a' w'->K a' w'):o.wp P a w K Q:=by
 have hr:=h.ctx.t x (by rw [hx])
 rw [hx] at hr
 have hl:=Bq h.lt x
 rw [hx] at hl
 exact Uf h hd (t:=t) (by simp [execOp,ho,Instr.box,newVar,newRow]) (Aj hcs hr h.hi hl (D8 hown)) (CJ hcs hl) hK
end
theorem grownBy_refl (w:World) (r:Option Nat):w.grownBy w r:=⟨rfl,rfl,rfl,Nat.le_refl _,fun _ _ _=>rfl⟩
theorem qZ {P:Program} {g t off:Nat}:∀ (vs:List Value) (i:Nat) (w:World) (arr:Array Value),w.heap[g]? = some (.cells arr t (0,0))->(∀ v∈vs,kZ v=true)->off+i+vs.length<=arr.size ->
  ∃ w',(storeCells ⟨g,off,none⟩ vs i).run P w = .ok () w'/\w'.heap[g]? = some (.cells (splice arr.toList (off+i) vs).toArray t (0,0))/\w.grownBy w' (some g)
 | [],i,w,arr,hg,_,_=>⟨w,rfl,by
   have:splice arr.toList (off+i) []=arr.toList:=by cases arr.toList<;>cases off+i<;>rfl
   rw [this];simpa using hg,grownBy_refl _ _⟩
 | v::vs,i,w,arr,hg,hv,hl=>by
  have hlt:off+i<arr.size:=by simp at hl;omega
  have hs:(store ⟨g,off+i,none⟩ v).run P w = .ok () (w.setCell ⟨g,off+i,none⟩ v):=by
   rw [run_store P w _ v .plain (by have:=hv v (by simp);cases v<;>first | rfl | exact this)]
   rw [pF hg,List.getElem?_eq_getElem (by simpa using hlt)]
   simp only [frozen_of_row w g _ arr t hg]
   rfl
  have h1:=heap_setCell_same w g (off+i) arr t v hg
  obtain ⟨w',h2,h3,h4⟩:=qZ (P:=P) (t:=t) (g:=g) (off:=off) vs (i+1) (w.setCell ⟨g,off+i,none⟩ v) (arr.setIfInBounds (off+i) v) h1 (fun u hu=>hv u (by simp [hu])) (by simp at hl ⊢;omega)
  refine ⟨w',?_,?_,?_⟩
  ·unfold storeCells
   rw [fG]
   simp only [Sem.run_bind,hs,Result.andThen_ok]
   exact h2
  ·rw [h3,Array.toList_setIfInBounds,← Nat.add_assoc]
   rcases wQ arr.toList (off+i) v vs with e | e
   ·rw [e]
   ·simp at e;omega
  ·exact ⟨h4.os,h4.tape,h4.output,by have:=h4.size;simpa using this,fun k hk hne=>(h4.block k (by simpa using hk) hne).trans (heap_setCell_other w _ k v fun e=>hne (by rw [e]))⟩
section
variable {P:Program} {cf:Cfg} {b:Base} {N:Nat} {φ:Nat->Value} {β:Nat->Nat->Prop} {M:Mem} {T:Tm} {H:List Ob} {a:Act} {w w':World}
variable {ops:Array Oper} {o:Oper} {Q:Exit->Act->World->Prop} {rest:List Oper} {K:Act->World->Prop}
theorem oG (hcf:jP P cf) {t g off tt:Nat} {u:Value} {arr:Array Value} (hz:cf.sz t≠0) (hg:w.heap[g]? = some (.cells arr tt (0,0))) (hsz:u.cells.toList.length=cf.sz t) (hl:∀ v∈u.cells.toList,kZ v=true) (hb:off+cf.sz t<=arr.size) :
  ∃ w',(Instr.storeAt t (.pointer (some ⟨g,off,none⟩)) u).run P w = .ok () w'/\w'.heap[g]? = some (.cells (splice arr.toList off u.cells.toList).toArray tt (0,0))/\w.grownBy w' (some g):=by
 obtain ⟨i,hi,h1,-⟩:=hcf.info t hz
 obtain ⟨w',h2,h3,h4⟩:=qZ (P:=P) (t:=tt) (off:=off) u.cells.toList 0 w arr hg hl (by omega)
 refine ⟨w',?_,h3,h4⟩
 have hs:(sizeOf t).run P w = .ok u.cells.size w:=by
  unfold sizeOf
  simp only [Sem.run_bind,run_typeInfo _ hi,Result.andThen_ok,Sem.run_pure,h1,← hsz,Array.length_toList]
 simp only [Instr.storeAt,Instr.sureAddr,Sem.run_bind,Sem.run_pure,Result.andThen_ok,storeVar,hs,ne_eq,not_true_eq_false,if_false]
 exact h2
theorem mg (h:RA P cf b N φ β M ⟨T,H⟩ a w) (hd:o.dst=none) {t:Nat} {x y:Operand} (ho:o.op = .store t x y) (hz:cf.sz t≠0) {i off:Nat} (hx:look T x=(true,.lf (.ptr i off))) {cs:List Lf} (hi:H[i]? = some (.box cs))
  {v:AV} (hy:look T y=(true,v)) {us:List Lf} (hus:cellsOf v=some us) (hown:qX H v=true) (hone:us.all (Lf.dU H)=true) (hsz:us.length=cf.sz t) (hb:off+us.length<=cs.length)
  (hK:∀ a' w',RA P cf b N φ β M ⟨T,H.set i (.box (splice cs off us))⟩ a' w'->K a' w'):o.wp P a w K Q:=by
 have hrx:=h.ctx.t x (by rw [hx])
 rw [hx] at hrx
 obtain ⟨g,h1,h2⟩:=hrx
 have hry:=h.ctx.t y (by rw [hy])
 rw [hy] at hry
 have hly:=Bq h.lt y
 rw [hy] at hly
 have hcr:=Aj hus hry h.hi hly (D8 hown)
 obtain ⟨g',arr,tt,h3,h4,⟨h5,h6⟩,hS⟩:=h.hi.ob i _ hi
 rw [h1] at h3
 cases h3
 have hlit:∀ v∈(a.eval y).cells.toList,kZ v=true:=fun v hv=>by
  obtain ⟨j,hj,rfl⟩:=List.getElem_of_mem hv
  have hj':j<us.length:=by have:=hcr.1;omega
  exact nK h.hi (List.all_eq_true.1 hone _ (List.getElem_mem hj')) (hcr.2 j hj' hj)
 obtain ⟨w',h7,h8,h9⟩:=oG h.cf (w:=w) (off:=off) (u:=a.eval y) hz h4 (by rw [hcr.1,hsz]) hlit (by rw [← hsz];have:=h5;simp at this;omega)
 unfold Oper.wp
 have hrun:(execOp a.eval o).run P w = .ok .skip w':=by
  simp only [execOp,ho,h2,Sem.run_bind,h7,Result.andThen_ok,Sem.run_pure]
 rw [hrun]
 have hput:a.put o.dst undef=a:=by rw [hd];rfl
 show K (a.put o.dst undef) w'
 rw [hput]
 refine hK a w' (h.set (List.getElem?_eq_some_iff.1 hi).1 h9 (fun k e=>by cases e;exact hS) ?_ ?_)
 ·refine ⟨g,_,tt,h1,h8,⟨?_,fun j hj hj' =>?_⟩,hS⟩
  ·simp [cO,h5]
  ·have e1:=dH cs off us hb j
   have e2:=dH arr.toList off (a.eval y).cells.toList (by rw [hcr.1];have:=h5;omega) j
   simp only [cO] at hj hj'
   rw [List.getElem?_eq_getElem (by rw [cO];omega)] at e1 e2
   by_cases hk:off<=j/\j<off+us.length
   ·rw [if_pos hk,List.getElem?_eq_getElem (by omega)] at e1
    rw [if_pos (by rw [hcr.1];exact hk),List.getElem?_eq_getElem (by rw [hcr.1];omega)] at e2
    simp only [Option.some.injEq] at e1 e2
    rw [e1,e2]
    exact hcr.2 _ _ _
   ·rw [if_neg hk,List.getElem?_eq_getElem (by omega)] at e1
    rw [if_neg (by rw [hcr.1];exact hk),List.getElem?_eq_getElem (by omega)] at e2
    simp only [Option.some.injEq] at e1 e2
    rw [e1,e2]
    exact h6 _ _ _
 ·intro y' hy'
  obtain ⟨j,hj,rfl⟩:=List.getElem_of_mem hy'
  have e1:=dH cs off us hb j
  rw [List.getElem?_eq_getElem hj] at e1
  by_cases hk:off<=j/\j<off+us.length
  ·rw [if_pos hk] at e1
   exact CJ hus hly _ (List.mem_of_getElem? e1.symm)
  ·rw [if_neg hk] at e1
   exact h.hi.wf i _ hi _ (List.mem_of_getElem? e1.symm)
end
def Cn.app:Cn->Cn->Option Cn
 | .ints xs,.ints ys=>some (.ints (xs++ys))
 | .ii xs,.ii ys=>some (.ii (xs++ys))
 | .iii xs,.iii ys=>some (.iii (xs++ys))
 | .k n xs,.k m ys=>bif Nat.beq n m then some (.k n (xs++ys)) else none
 | .ki n xs,.ki m ys=>bif Nat.beq n m then some (.ki n (xs++ys)) else none
 | .kii n xs,.kii m ys=>bif Nat.beq n m then some (.kii n (xs++ys)) else none
 | .bo xs,.bo ys=>some (.bo (xs++ys))
 | .bbo xs,.bbo ys=>some (.bbo (xs++ys))
 | _,_=>none
def mG:TV->Option Cn
 | .one (.b (.val (.int .i64 m)))=>some (.ints [m])
 | .one (.b (.sl (.ints ys)))=>some (.ii [ys])
 | .one (.b (.sl (.ii ys)))=>some (.iii [ys])
 | .one (.b (.sl (.k n ys)))=>some (.ki n [ys])
 | .one (.b (.sl (.ki n ys)))=>some (.kii n [ys])
 | .agg xs=>(intsOf xs).map fun ms => .k ms.length [ms]
 | .one (.b (.val (.bool m)))=>some (.bo [m])
 | .one (.b (.sl (.bo ys)))=>some (.bbo [ys])
 | .one (.b (.val (.slice none 0 0)))=>some (.nl 1)
 | _=>none
def Cn.put (c:Cn) (j o:Nat) (v:TV):Option Cn:=match c,v with
 | .ints xs,.one (.b (.val (.int .i64 m)))=>some (.ints (xs.set j m))
 | .ii xs,.one (.b (.sl (.ints ys)))=>some (.ii (xs.set j ys))
 | .iii xs,.one (.b (.sl (.ii ys)))=>some (.iii (xs.set j ys))
 | .ki n xs,.one (.b (.sl (.k m ys)))=>bif Nat.beq n m then some (.ki n (xs.set j ys)) else none
 | .kii n xs,.one (.b (.sl (.ki m ys)))=>bif Nat.beq n m then some (.kii n (xs.set j ys)) else none
 | .k n xs,.one (.b (.val (.int .i64 m)))=>some (.k n (xs.set j ((xs.getD j []).set o m)))
 | .k n xs,.agg ls=>match intsOf ls with
  | some ms=>bif Nat.beq ms.length n && Nat.beq o 0 then some (.k n (xs.set j ms)) else none
  | none=>none
 | .bo xs,.one (.b (.val (.bool m)))=>some (.bo (xs.set j m))
 | .bbo xs,.one (.b (.sl (.bo ys)))=>some (.bbo (xs.set j ys))
 | .wk xs,.agg [.b (.val (.bool p)),.b (.val (.int .i64 x)),.b (.val (.int .i64 y))]=>some (.wk (xs.set j (p,x,y)))
 | _,_=>none
def emp (cf:Cfg) (e:Nat):Option Cn:=match cf.ty e with
 | .int=>some (.ints [])
 | .bool=>some (.bo [])
 | .slice e2=>match cf.ty e2 with
  | .int=>some (.ii [])
  | .bool=>some (.bbo [])
  | .slice e3=>match cf.ty e3 with
   | .int=>some (.iii [])
   | .struct _=>some (.kii (cf.sz e3) [])
   | .arr _ _=>some (.kii (cf.sz e3) [])
   | _=>none
  | .struct _=>some (.ki (cf.sz e2) [])
  | .arr _ _=>some (.ki (cf.sz e2) [])
  | _=>none
 | .struct _=>some (.k (cf.sz e) [])
 | .arr _ _=>some (.k (cf.sz e) [])
 | _=>none
theorem PG {cf:Cfg} {e:Nat} {c:Cn} (h:emp cf e=some c):c.len=0/\c.ok:=by
 unfold emp at h
 repeat (split at h<;>first | (cases h;exact ⟨rfl,by simp [Cn.ok]⟩) | (cases h;done) | skip)
theorem beq_eq {n m:Nat} {α:Type} {x y:α} (h:(bif Nat.beq n m then some x else none)=some y):n=m/\x=y:=by
 cases e:Nat.beq n m with
 | true=>rw [e] at h;cases h;exact ⟨Nat.eq_of_beq_eq_true e,rfl⟩
 | false=>rw [e] at h;cases h
theorem gU {α:Type} (xs ys:List α) (d:α) (j:Nat):(xs++ys).getD j d=if j<xs.length then xs.getD j d else ys.getD (j-xs.length) d:=by
 simp only [List.getD_eq_getElem?_getD]
 by_cases h:j<xs.length
 ·rw [if_pos h,List.getElem?_append_left h]
 ·rw [if_neg h,List.getElem?_append_right (by omega)]
theorem ny {α:Type} (xs ys:List α) (d:α) {j:Nat} (h:j<xs.length):(xs++ys).getD j d=xs.getD j d:=by rw [gU,if_pos h]
theorem nC {α:Type} (xs ys:List α) (d:α) {j:Nat} (h:¬ j<xs.length):(xs++ys).getD j d=ys.getD (j-xs.length) d:=by rw [gU,if_neg h]
theorem jk {c c2 c':Cn} (h:c.app c2=some c'):c'.len=c.len+c2.len/\c'.w=c.w/\c2.w=c.w/\(c.ok->c2.ok->c'.ok)/\∀ j o,(j<c.len->c'.cell j o=c.cell j o)/\(¬ j<c.len->c'.cell j o=c2.cell (j-c.len) o):=by
 cases c<;>cases c2<;>simp only [Cn.app] at h<;>first | (cases h;done) | skip
 case ints.ints=>cases h;exact ⟨by simp [Cn.len],rfl,rfl,fun _ _=>trivial,fun j o=>⟨fun h9=>by simp only [Cn.cell];rw [ny _ _ _ h9],fun h9=>by simp only [Cn.cell];rw [nC _ _ _ h9];rfl⟩⟩
 case ii.ii=>cases h;exact ⟨by simp [Cn.len],rfl,rfl,fun _ _=>trivial,fun j o=>⟨fun h9=>by simp only [Cn.cell];rw [ny _ _ _ h9],fun h9=>by simp only [Cn.cell];rw [nC _ _ _ h9];rfl⟩⟩
 case iii.iii=>cases h;exact ⟨by simp [Cn.len],rfl,rfl,fun _ _=>trivial,fun j o=>⟨fun h9=>by simp only [Cn.cell];rw [ny _ _ _ h9],fun h9=>by simp only [Cn.cell];rw [nC _ _ _ h9];rfl⟩⟩
 case k.k =>
  obtain ⟨rfl,rfl⟩:=beq_eq h
  exact ⟨by simp [Cn.len],rfl,rfl,fun h1 h2 x hx=>(List.mem_append.1 hx).elim (h1 x) (h2 x),fun j o=>⟨fun h9=>by simp only [Cn.cell];rw [ny _ _ _ h9],fun h9=>by simp only [Cn.cell];rw [nC _ _ _ h9];rfl⟩⟩
 case ki.ki=>obtain ⟨rfl,rfl⟩:=beq_eq h;exact ⟨by simp [Cn.len],rfl,rfl,fun _ _=>trivial,fun j o=>⟨fun h9=>by simp only [Cn.cell];rw [ny _ _ _ h9],fun h9=>by simp only [Cn.cell];rw [nC _ _ _ h9];rfl⟩⟩
 case kii.kii=>obtain ⟨rfl,rfl⟩:=beq_eq h;exact ⟨by simp [Cn.len],rfl,rfl,fun _ _=>trivial,fun j o=>⟨fun h9=>by simp only [Cn.cell];rw [ny _ _ _ h9],fun h9=>by simp only [Cn.cell];rw [nC _ _ _ h9];rfl⟩⟩
 case bo.bo=>cases h;exact ⟨by simp [Cn.len],rfl,rfl,fun _ _=>trivial,fun j o=>⟨fun h9=>by simp only [Cn.cell];rw [ny _ _ _ h9],fun h9=>by simp only [Cn.cell];rw [nC _ _ _ h9];rfl⟩⟩
 case bbo.bbo=>cases h;exact ⟨by simp [Cn.len],rfl,rfl,fun _ _=>trivial,fun j o=>⟨fun h9=>by simp only [Cn.cell];rw [ny _ _ _ h9],fun h9=>by simp only [Cn.cell];rw [nC _ _ _ h9];rfl⟩⟩
theorem nU {M:Mem} {c c2 c':Cn} {vs vs2:List Value} (h:c.app c2=some c') (h1:c.rel M vs) (h2:c2.rel M vs2):c'.rel M (vs++vs2):=by
 obtain ⟨e1,e2,e3,e4,e5⟩:=jk h
 have hl1:=h1.2.1
 have hl2:=h2.2.1
 refine ⟨e4 h1.1 h2.1,by rw [List.length_append,hl1,hl2,e1,e2,e3,Nat.add_mul],fun j o hj ho =>?_⟩
 rw [e2] at ho ⊢
 show ∃ u,(vs++vs2)[j*c.w+o]? = some u/\B.rel M (c'.cell j o) u
 by_cases hlt:j<c.len
 ·rw [(e5 j o).1 hlt]
  obtain ⟨u,h3,h4⟩:=h1.2.2 j o hlt ho
  refine ⟨u,?_,h4⟩
  rw [List.getElem?_append_left (List.getElem?_eq_some_iff.1 h3).1]
  exact h3
 ·rw [(e5 j o).2 hlt]
  obtain ⟨u,h3,h4⟩:=h2.2.2 (j-c.len) o (by omega) (by rw [e3];exact ho)
  refine ⟨u,?_,h4⟩
  have hm:j*c.w+o=c.len*c.w+((j-c.len)*c.w+o):=by
   have:j*c.w=c.len*c.w+(j-c.len)*c.w:=by rw [← Nat.add_mul];congr 1;omega
   omega
  rw [List.getElem?_append_right (by rw [hl1,hm];omega),hl1]
  rw [e3] at h3
  rw [show j*c.w+o-c.len*c.w=(j-c.len)*c.w+o by omega]
  exact h3
theorem rY:∀ {xs:List Lf} {ms:List Int},intsOf xs=some ms->xs=ms.map fun m => .b (.val (.int .i64 m))
 | [],ms,h=>by cases h;rfl
 | x::xs,ms,h=>by
  unfold intsOf at h
  split at h
  ·rename_i e;cases e
  ·rename_i m xs' e
   cases e
   simp only [Option.map_eq_some_iff] at h
   obtain ⟨ms',h1,rfl⟩:=h
   rw [rY h1]
   rfl
  ·cases h
theorem KP {φ:Nat->Value} {M:Mem} {v:TV} {c:Cn} {us:List Value} (h:mG v=some c) (h1:gQ φ M v.cs us):c.rel M us/\c.len=1:=by
  have hone:∀ x,v = .one x->∃ u,us=[u]/\x.rel φ M u:=fun x e=>by
    subst e
    obtain ⟨h2,h3⟩:=h1
    match us,h2 with
    | [u],_=>exact ⟨u,rfl,h3 0 (by simp [TV.cs]) (by simp)⟩
  unfold mG at h
  split at h
  · cases h
    obtain ⟨u,rfl,h2⟩:=hone _ rfl
    exact ⟨⟨trivial,rfl,fun j o hj ho=>by
      simp only [Cn.len,List.length_singleton,Cn.w] at hj ho
      obtain rfl:j=0:=by omega
      obtain rfl:o=0:=by omega
      exact ⟨u,rfl,h2⟩⟩,rfl⟩
  all_goals first
    | (cases h
       obtain ⟨u,rfl,h2⟩:=hone _ rfl
       exact ⟨⟨trivial,rfl,fun j o hj ho=>by
         simp only [Cn.len,List.length_singleton,Cn.w] at hj ho
         obtain rfl:j=0:=by omega
         obtain rfl:o=0:=by omega
         exact ⟨u,rfl,h2⟩⟩,rfl⟩)
    | skip
  · rename_i xs
    simp only [Option.map_eq_some_iff] at h
    obtain ⟨ms,h2,rfl⟩:=h
    have h3:=rY h2
    subst h3
    obtain ⟨h4,h5⟩:=h1
    simp only [TV.cs,List.length_map] at h4
    refine ⟨⟨fun x hx=>by simp at hx;rw [hx],by simp [Cn.len,Cn.w,h4],fun j o hj ho =>?_⟩,rfl⟩
    simp only [Cn.len,List.length_singleton,Cn.w] at hj ho ⊢
    obtain rfl:j=0:=by omega
    refine ⟨us[o]'(by omega),by rw [Nat.zero_mul,Nat.zero_add,List.getElem?_eq_getElem (by omega)],?_⟩
    have h6:=h5 o (by simpa [TV.cs] using ho) (by omega)
    simp only [TV.cs,List.getElem_map] at h6
    show us[o]'(by omega)=_
    rw [show us[o]'(by omega)=Value.int .i64 ms[o] from h6]
    simp [Cn.cell,List.getD_eq_getElem?_getD,ho]
  · cases h
theorem bD {α:Type} (xs:List α) (j k:Nat) (y d:α) (hj:j<xs.length):(xs.set j y).getD k d=if k=j then y else xs.getD k d:=by
 simp only [List.getD_eq_getElem?_getD,List.getElem?_set]
 by_cases h:j=k
 ·subst h;simp [hj]
 ·rw [if_neg h,if_neg (fun e=>h e.symm)]
theorem Wi {c c':Cn} {j o:Nat} {v:TV} (h:c.put j o v=some c') (hj:j<c.len) (ho:o+v.cs.length<=c.w):c'.len=c.len/\c'.w=c.w/\(c.ok->c'.ok) /\
  ∀ φ M j' o',j'<c.len->o'<c.w->c.ok->(j'=j/\o<=o'/\o'<o+v.cs.length->∀ u,(∀ x,v.cs[o'-o]? = some x->Lf.rel φ M x u)->(c'.cell j' o').rel M u)/\(¬ (j'=j/\o<=o'/\o'<o+v.cs.length)->c'.cell j' o'=c.cell j' o'):=by
 unfold Cn.put at h
 split at h
 case h_1 xs m =>
  cases h
  simp only [Cn.len,Cn.w,TV.cs,List.length_singleton] at hj ho
  refine ⟨by simp [Cn.len],rfl,fun _=>trivial,fun φ M j' o' hj' ho' _=>⟨fun hc u hu =>?_,fun hc =>?_⟩⟩
  ·obtain ⟨rfl,h2,h3⟩:=hc
   simp only [Cn.cell,bD _ _ _ _ _ hj,if_true]
   exact hu (.b (.val (.int .i64 m))) (by simp only [Cn.w] at ho';simp [TV.cs,show o'-o=0 by omega])
  ·simp only [Cn.cell,bD _ _ _ _ _ hj]
   rw [if_neg fun e=>hc ⟨e,by simp only [Cn.w] at ho';omega,by simp only [Cn.w,TV.cs,List.length_singleton] at ho' ⊢;omega⟩]
 case h_2 xs ys =>
  cases h
  simp only [Cn.len,Cn.w,TV.cs,List.length_singleton] at hj ho
  refine ⟨by simp [Cn.len],rfl,fun _=>trivial,fun φ M j' o' hj' ho' _=>⟨fun hc u hu =>?_,fun hc =>?_⟩⟩
  ·obtain ⟨rfl,h2,h3⟩:=hc
   simp only [Cn.cell,bD _ _ _ _ _ hj,if_true]
   exact hu (.b (.sl (.ints ys))) (by simp only [Cn.w] at ho';simp [TV.cs,show o'-o=0 by omega])
  ·simp only [Cn.cell,bD _ _ _ _ _ hj]
   rw [if_neg fun e=>hc ⟨e,by simp only [Cn.w] at ho';omega,by simp only [Cn.w,TV.cs,List.length_singleton] at ho' ⊢;omega⟩]
 case h_3 xs ys =>
  cases h
  simp only [Cn.len,Cn.w,TV.cs,List.length_singleton] at hj ho
  refine ⟨by simp [Cn.len],rfl,fun _=>trivial,fun φ M j' o' hj' ho' _=>⟨fun hc u hu =>?_,fun hc =>?_⟩⟩
  ·obtain ⟨rfl,h2,h3⟩:=hc
   simp only [Cn.cell,bD _ _ _ _ _ hj,if_true]
   exact hu (.b (.sl (.ii ys))) (by simp only [Cn.w] at ho';simp [TV.cs,show o'-o=0 by omega])
  ·simp only [Cn.cell,bD _ _ _ _ _ hj]
   rw [if_neg fun e=>hc ⟨e,by simp only [Cn.w] at ho';omega,by simp only [Cn.w,TV.cs,List.length_singleton] at ho' ⊢;omega⟩]
 case h_4 n xs m ys =>
  obtain ⟨rfl,rfl⟩:=beq_eq h
  simp only [Cn.len,Cn.w,TV.cs,List.length_singleton] at hj ho
  refine ⟨by simp [Cn.len],rfl,fun _=>trivial,fun φ M j' o' hj' ho' _=>⟨fun hc u hu =>?_,fun hc =>?_⟩⟩
  ·obtain ⟨rfl,h2,h3⟩:=hc
   simp only [Cn.cell,bD _ _ _ _ _ hj,if_true]
   exact hu (.b (.sl (.k n ys))) (by simp only [Cn.w] at ho';simp [TV.cs,show o'-o=0 by omega])
  ·simp only [Cn.cell,bD _ _ _ _ _ hj]
   rw [if_neg fun e=>hc ⟨e,by simp only [Cn.w] at ho';omega,by simp only [Cn.w,TV.cs,List.length_singleton] at ho' ⊢;omega⟩]
 case h_5 n xs m ys =>
  obtain ⟨rfl,rfl⟩:=beq_eq h
  simp only [Cn.len,Cn.w,TV.cs,List.length_singleton] at hj ho
  refine ⟨by simp [Cn.len],rfl,fun _=>trivial,fun φ M j' o' hj' ho' _=>⟨fun hc u hu =>?_,fun hc =>?_⟩⟩
  ·obtain ⟨rfl,h2,h3⟩:=hc
   simp only [Cn.cell,bD _ _ _ _ _ hj,if_true]
   exact hu (.b (.sl (.ki n ys))) (by simp only [Cn.w] at ho';simp [TV.cs,show o'-o=0 by omega])
  ·simp only [Cn.cell,bD _ _ _ _ _ hj]
   rw [if_neg fun e=>hc ⟨e,by simp only [Cn.w] at ho';omega,by simp only [Cn.w,TV.cs,List.length_singleton] at ho' ⊢;omega⟩]
 case h_6 n xs m =>
  cases h
  simp only [Cn.len,Cn.w,TV.cs,List.length_singleton] at hj ho
  have hel:∀ (hok:Cn.ok (.k n xs)),(xs.getD j []).length=n:=fun hok=>by
   rw [List.getD_eq_getElem?_getD,List.getElem?_eq_getElem hj]
   exact hok _ (List.getElem_mem hj)
  refine ⟨by simp [Cn.len],rfl,fun hok x hx =>?_,fun φ M j' o' hj' ho' hok=>⟨fun hc u hu =>?_,fun hc =>?_⟩⟩
  ·rcases List.mem_or_eq_of_mem_set hx with h1 | rfl
   ·exact hok x h1
   ·rw [List.length_set];exact hel hok
  ·obtain ⟨rfl,h2,h3⟩:=hc
   simp only [TV.cs,List.length_singleton] at h3 hu
   obtain rfl:o'=o:=by omega
   simp only [Cn.cell,bD _ _ _ _ _ hj,if_true]
   rw [bD _ _ _ _ _ (by rw [hel hok];exact ho),if_pos rfl]
   exact hu (.b (.val (.int .i64 m))) (by simp)
  ·simp only [Cn.cell,bD _ _ _ _ _ hj]
   by_cases e:j'=j
   ·subst e
    rw [if_pos rfl]
    rw [bD _ _ _ _ _ (by rw [hel hok];exact ho),if_neg fun e=>hc ⟨rfl,by omega,by simp [TV.cs];omega⟩]
   ·rw [if_neg e]
 case h_7 n xs ls =>
  split at h
  ·rename_i ms hms
   cases e:(Nat.beq ms.length n && Nat.beq o 0) with
   | false=>rw [e] at h;cases h
   | true =>
    rw [e] at h
    cases h
    simp only [Bool.and_eq_true] at e
    have e1:=Nat.eq_of_beq_eq_true e.1
    have e2:=Nat.eq_of_beq_eq_true e.2
    subst e2
    have h3:=rY hms
    subst h3
    simp only [Cn.len,Cn.w,TV.cs,List.length_map] at hj ho ⊢
    refine ⟨by simp,trivial,fun hok x hx =>?_,fun φ M j' o' hj' ho' hok=>⟨fun hc u hu =>?_,fun hc =>?_⟩⟩
    ·rcases List.mem_or_eq_of_mem_set hx with h1 | rfl
     ·exact hok x h1
     ·exact e1
    ·obtain ⟨rfl,h2,h4⟩:=hc
     simp only [Cn.cell,bD _ _ _ _ _ hj,if_true]
     have h5:o'<ms.length:=by omega
     have h6:=hu (.b (.val (.int .i64 ms[o']))) (by simp [h5])
     rw [List.getD_eq_getElem?_getD,List.getElem?_eq_getElem h5]
     exact h6
    ·simp only [Cn.cell,bD _ _ _ _ _ hj]
     rw [if_neg fun e=>hc ⟨e,by omega,by omega⟩]
  ·cases h
 case h_8 xs m =>
  cases h
  simp only [Cn.len,Cn.w,TV.cs,List.length_singleton] at hj ho
  refine ⟨by simp [Cn.len],rfl,fun _=>trivial,fun φ M j' o' hj' ho' _=>⟨fun hc u hu =>?_,fun hc =>?_⟩⟩
  ·obtain ⟨rfl,h2,h3⟩:=hc
   simp only [Cn.cell,bD _ _ _ _ _ hj,if_true]
   exact hu (.b (.val (.bool m))) (by simp only [Cn.w] at ho';simp [TV.cs,show o'-o=0 by omega])
  ·simp only [Cn.cell,bD _ _ _ _ _ hj]
   rw [if_neg fun e=>hc ⟨e,by simp only [Cn.w] at ho';omega,by simp only [Cn.w,TV.cs,List.length_singleton] at ho' ⊢;omega⟩]
 case h_9 xs ys =>
  cases h
  simp only [Cn.len,Cn.w,TV.cs,List.length_singleton] at hj ho
  refine ⟨by simp [Cn.len],rfl,fun _=>trivial,fun φ M j' o' hj' ho' _=>⟨fun hc u hu =>?_,fun hc =>?_⟩⟩
  ·obtain ⟨rfl,h2,h3⟩:=hc
   simp only [Cn.cell,bD _ _ _ _ _ hj,if_true]
   exact hu (.b (.sl (.bo ys))) (by simp only [Cn.w] at ho';simp [TV.cs,show o'-o=0 by omega])
  ·simp only [Cn.cell,bD _ _ _ _ _ hj]
   rw [if_neg fun e=>hc ⟨e,by simp only [Cn.w] at ho';omega,by simp only [Cn.w,TV.cs,List.length_singleton] at ho' ⊢;omega⟩]
 case h_10 xs p x y =>
  cases h
  simp only [Cn.len,Cn.w,TV.cs,List.length_cons,List.length_nil] at hj ho
  obtain rfl:o=0:=by omega
  refine ⟨by simp [Cn.len],rfl,fun _=>trivial,fun φ M j' o' hj' ho' _=>⟨fun hc u hu =>?_,fun hc =>?_⟩⟩
  ·obtain ⟨rfl,h2,h3⟩:=hc
   simp only [Cn.cell,bD _ _ _ _ _ hj,if_true]
   simp only [Cn.w] at ho'
   rcases o' with _ | _ | _ | o'
   ·exact hu (.b (.val (.bool p))) (by simp [TV.cs])
   ·exact hu (.b (.val (.int .i64 x))) (by simp [TV.cs])
   ·exact hu (.b (.val (.int .i64 y))) (by simp [TV.cs])
   ·omega
  ·simp only [Cn.cell,bD _ _ _ _ _ hj]
   rw [if_neg fun e=>hc ⟨e,by omega,by simp only [Cn.w,TV.cs,List.length_cons,List.length_nil] at ho' ⊢;omega⟩]
 case h_11=>cases h
section
variable {P:Program} {cf:Cfg} {b:Base} {N:Nat} {φ:Nat->Value} {β:Nat->Nat->Prop} {M:Mem} {T:Tm} {H:List Ob} {a:Act} {w w':World}
variable {ops:Array Oper} {o:Oper} {Q:Exit->Act->World->Prop} {rest:List Oper} {K:Act->World->Prop}
theorem xI (h:RA P cf b N φ β M ⟨T,H⟩ a w) (hd:o.dst=none) {t:Nat} {x y:Operand} (ho:o.op = .store t x y) (hz:cf.sz t≠0) {i wd j off:Nat} (hx:look T x=(true,.lf (.oa i wd j off))) {e:Nat} {c c':Cn} (hi:H[i]? = some (.row e c))
  {v:TV} (hy:look T y=(true,.tv v)) (hone:v.cs.all (Lf.dU H)=true) (hsz:v.cs.length=cf.sz t) (hw:wd=c.w) (hj:j<c.len) (hb:off+v.cs.length<=c.w) (hp:c.put j off v=some c')
  (hK:∀ a' w',RA P cf b N φ β M ⟨T,H.set i (.row e c')⟩ a' w'->K a' w'):o.wp P a w K Q:=by
 subst hw
 have hrx:=h.ctx.t x (by rw [hx])
 rw [hx] at hrx
 obtain ⟨g,n,cap,h1,h2⟩:=hrx
 have hry:=h.ctx.t y (by rw [hy])
 rw [hy] at hry
 have hcr:gQ φ M v.cs (a.eval y).cells.toList:=yZ hry fun z e=>by
  subst e
  exact nK h.hi (List.all_eq_true.1 hone z (by simp [TV.cs])) hry
 have hlit:∀ u∈(a.eval y).cells.toList,kZ u=true:=fun u hu=>by
  obtain ⟨k,hk,rfl⟩:=List.getElem_of_mem hu
  have hk':k<v.cs.length:=by have:=hcr.1;omega
  exact nK h.hi (List.all_eq_true.1 hone _ (List.getElem_mem hk')) (hcr.2 k hk' hk)
 obtain ⟨vs,h3,h4,hS⟩:=h.hi.ob i _ hi
 rw [h1] at h3
 obtain ⟨h3l,h3⟩:=h3
 rcases h3 with ⟨h3,_⟩ | ⟨g',cap',cur,h3,_,h5,h6,h7,h8,h9⟩
 ·cases h3
 cases h3
 have hbound:j*c.w+off+v.cs.length<=c.len*c.w:=by
  have:j*c.w+c.w<=c.len*c.w:=by rw [← Nat.succ_mul];exact Nat.mul_le_mul_right _ hj
  omega
 have hcap:c.len*c.w<=cap*c.w:=Nat.mul_le_mul_right _ h6
 obtain ⟨w',k1,k2,k3⟩:=oG h.cf (w:=w) (off:=j*c.w+off) (u:=a.eval y) hz h5 (by rw [hcr.1,hsz]) hlit (by rw [← hsz];omega)
 unfold Oper.wp
 have hrun:(execOp a.eval o).run P w = .ok .skip w':=by
  simp only [execOp,ho,h2,Sem.run_bind,k1,Result.andThen_ok,Sem.run_pure]
 rw [hrun]
 have hput:a.put o.dst undef=a:=by rw [hd];rfl
 show K (a.put o.dst undef) w'
 rw [hput]
 obtain ⟨p1,p2,p3,p4⟩:=Wi hp hj hb
 have hlv:(splice vs (j*c.w+off) (a.eval y).cells.toList).length=c.len*c.w:=by rw [cO];exact h3l
 have hub:=hcr.1
 refine hK a w' (h.set (List.getElem?_eq_some_iff.1 hi).1 k3 (fun k e=>by cases e;exact hS g (by rw [h1];rfl)) ⟨splice vs (j*c.w+off) (a.eval y).cells.toList,?_,⟨p3 h4.1,?_⟩,hS⟩ trivial)
 ·rw [h1,p1,p2]
  refine ⟨hlv,.inr ⟨g,cap,_,rfl,Nat.zero_le _,k2,h6,h7,?_,?_⟩⟩
  ·simp only [List.size_toArray,cO,Array.length_toList];exact h8
  ·refine List.ext_getElem? fun k =>?_
   rw [List.getElem?_take]
   have e0:cur.toList.length=cap*c.w:=by simpa using h8
   have e1:=dH cur.toList (j*c.w+off) (a.eval y).cells.toList (by rw [e0];omega) k
   have e2:=dH vs (j*c.w+off) (a.eval y).cells.toList (by rw [hub,h3l];omega) k
   by_cases hk:k<c.len*c.w
   ·rw [if_pos hk,e1,e2]
    have:vs[k]? = cur.toList[k]? := by rw [← h9,List.getElem?_take,if_pos hk]
    rw [this]
   ·rw [if_neg hk,List.getElem?_eq_none (by omega)]
 ·rw [p1,p2]
  refine ⟨hlv,fun j' o' hj' ho' =>?_⟩
  have e2:=dH vs (j*c.w+off) (a.eval y).cells.toList (by rw [hub,h3l];omega) (j'*c.w+o')
  obtain ⟨q1,q2⟩:=p4 φ M j' o' hj' ho' h4.1
  have hiff:(j*c.w+off<=j'*c.w+o'/\j'*c.w+o'<j*c.w+off+(a.eval y).cells.toList.length)↔(j'=j/\off<=o'/\o'<off+v.cs.length):=by
   rw [hub]
   constructor
   ·intro ⟨r1,r2⟩
    have hjj:j'=j:=by
     rcases Nat.lt_trichotomy j' j with hlt | rfl | hlt
     ·have:j'*c.w+c.w<=j*c.w:=by rw [← Nat.succ_mul];exact Nat.mul_le_mul_right _ hlt
      omega
     ·rfl
     ·have:j*c.w+c.w<=j'*c.w:=by rw [← Nat.succ_mul];exact Nat.mul_le_mul_right _ hlt
      omega
    subst hjj
    exact ⟨rfl,by omega,by omega⟩
   ·rintro ⟨rfl,r1,r2⟩
    omega
  by_cases hc:j'=j/\off<=o'/\o'<off+v.cs.length
  ·rw [if_pos (hiff.2 hc)] at e2
   obtain ⟨rfl,r1,r2⟩:=hc
   have hk:o'-off<(a.eval y).cells.toList.length:=by omega
   rw [show j'*c.w+o'-(j'*c.w+off)=o'-off by omega,List.getElem?_eq_getElem hk] at e2
   refine ⟨_,e2,q1 ⟨rfl,r1,r2⟩ _ fun x hx =>?_⟩
   obtain ⟨hx1,hx2⟩:=List.getElem?_eq_some_iff.1 hx
   rw [← hx2]
   exact hcr.2 _ _ _
  ·rw [if_neg (fun r=>hc (hiff.1 r))] at e2
   obtain ⟨u,e3,e4⟩:=h4.2.2 j' o' hj' ho'
   exact ⟨u,e2.trans e3,by show B.rel M (c'.cell j' o') u;rw [q2 hc];exact e4⟩
end
def Lf.kill (i:Nat):Lf->Lf
 | .own j=>bif Nat.beq j i then .und else .own j
 | .ptr j o=>bif Nat.beq j i then .und else .ptr j o
 | .oa j w k o=>bif Nat.beq j i then .und else .oa j w k o
 | x=>x
theorem yj {φ:Nat->Value} {M:Mem} {i:Nat} {v u:Value} {x:Lf} (h:x.rel φ M u):(x.kill i).rel (upd φ i v) M u:=by
 cases x with
 | und=>trivial
 | b x=>exact h
 | ea c j o=>exact h
 | ip xs o=>exact h
 | own j =>
  simp only [Lf.kill]
  cases e:Nat.beq j i with
  | true=>trivial
  | false=>exact h.trans (upd_ne φ v (fun k=>by rw [k,Nat.beq_refl] at e;cases e)).symm
 | ptr j o =>
  simp only [Lf.kill]
  cases e:Nat.beq j i with
  | true=>trivial
  | false =>
   obtain ⟨g,h1,h2⟩:=h
   exact ⟨g,(upd_ne φ v (fun k=>by rw [k,Nat.beq_refl] at e;cases e)).trans h1,h2⟩
 | oa j w k o =>
  simp only [Lf.kill]
  cases e:Nat.beq j i with
  | true=>trivial
  | false =>
   obtain ⟨g,n,cap,h1,h2⟩:=h
   exact ⟨g,n,cap,(upd_ne φ v (fun k=>by rw [k,Nat.beq_refl] at e;cases e)).trans h1,h2⟩
theorem uw {i n:Nat} {x:Lf} (h:x.ltB n=true):(x.kill i).ltB n=true:=by
 cases x<;>simp only [Lf.kill]<;>first | exact h | (split<;>first | rfl | exact h) | (cases Nat.beq _ i<;>first | rfl | exact h)
def iq (i:Nat) (X:St) (o:Ob):St:=⟨X.T.map (Lf.kill i),(X.H.map (Ob.map (Lf.kill i))).set i o⟩
section
variable {P:Program} {cf:Cfg} {b:Base} {N:Nat} {φ:Nat->Value} {β:Nat->Nat->Prop} {M:Mem} {T:Tm} {H:List Ob} {a:Act} {w w':World}
variable {ops:Array Oper} {o:Oper} {Q:Exit->Act->World->Prop} {rest:List Oper}
theorem RA.turn (h:RA P cf b N φ β M ⟨T,H⟩ a w) {i:Nat} (hil:i<H.length) (hfx:b.fx.getD i false=false) {o':Ob} {v:Value} {r:Option Nat} (S:Nat->Prop) (hw:w.grownBy w' r) (hr:∀ g,r=some g->β i g) (hv:∀ g,S g->g<w'.heap.size/\(β i g\/w.heap.size<=g)) (ho:o'.rel (upd φ i v) S M w' v) (hlt:o'.lt H.length) :
  RA P cf b N (upd φ i v) (dI β i S) M (iq i ⟨T,H⟩ o') a w':=by
 have hlen:(iq i ⟨T,H⟩ o').H.length=H.length:=by simp [iq]
 have hone:∀ j,j<(iq i ⟨T,H⟩ o').H.length->H.length<=j\/j=i->j=i:=fun j hj hc=>by rcases hc with hc | hc<;>omega
 exact h.change (w':=w') (Lf.kill i) (fun j=>j=i) (φ':=upd φ i v) (β':=dI β i S) (H':=(iq i ⟨T,H⟩ o').H) ⟨hw.os,hw.tape,hw.output,hw.size,fun k hk hn=>hw.block k hk fun e=>hn ⟨i,hil,rfl,hr k e.symm⟩⟩ (by simp [iq])
  (fun y hy u hu=>yj hu) (fun y hy=>by rw [hlen];exact uw hy)
  (fun j p hj hne=>by
   refine ⟨?_,upd_ne φ v hne,bG _ _ hne⟩
   simp only [iq]
   rw [List.getElem?_set,if_neg (fun e=>hne e.symm),List.getElem?_map,hj]
   rfl)
  (fun j p hj hc=>by
   obtain rfl:=hone j (List.getElem?_eq_some_iff.1 hj).1 hc
   simp only [iq] at hj
   rw [List.getElem?_set,if_pos rfl,if_pos (by simpa using hil)] at hj
   cases hj
   rw [aS,upd_same]
   exact ⟨ho,by rw [hlen];exact hlt⟩)
  (fun j g hj hc hg=>by
   obtain rfl:=hone j hj hc
   rw [aS] at hg
   obtain ⟨h1,h2⟩:=hv g hg
   refine ⟨h1,?_⟩
   rcases h2 with h2 | h2
   ·exact .inr ⟨j,hil,rfl,h2⟩
   ·exact .inl h2)
  (fun j k g hj hk hc hc' _ _=>by rw [hone j hj hc,hone k hk hc'])
  (fun j hj=>upd_ne φ v fun e=>by rw [e,hfx] at hj;cases hj)
theorem jc {u:Value} {e size n:Nat} {vs:List Value} (h:w.ownsRow 0 e size u n vs):u.ownBlock=blk u:=by
 rcases h.2 with ⟨rfl,_⟩ | ⟨g,cap,cur,rfl,_⟩<;>rfl
theorem YQ (x:Bool×Int×Int) (o:Nat):kZ (wkV x o)=true:=by rcases o with _ | _ | _<;>rfl
theorem uy {c:Cn} {vs:List Value} (h:c.rel M vs):∀ u∈vs,kZ u=true:=fun u hu=>by
 obtain ⟨k,hk,rfl⟩:=List.getElem_of_mem hu
 have hl:=h.2.1
 have hw:0<c.w:=by
  rcases Nat.eq_zero_or_pos c.w with e | e
  ·rw [e,Nat.mul_zero] at hl;omega
  ·exact e
 have hj:k / c.w<c.len:=(Nat.div_lt_iff_lt_mul hw).2 (by omega)
 obtain ⟨u,h1,h2⟩:=h.2.2 (k / c.w) (k % c.w) hj (Nat.mod_lt _ hw)
 rw [show k / c.w*c.w+k % c.w=k by rw [Nat.mul_comm];exact Nat.div_add_mod k c.w,List.getElem?_eq_getElem hk] at h1
 cases h1
 generalize hb:c.cell (k / c.w) (k % c.w)=b at h2
 cases b with
 | sl c2=>obtain ⟨_,⟨A,cap,e,_⟩,_⟩:=B.jB.1 h2;rw [e];rfl
 | raw bs=>obtain ⟨_,⟨A,cap,e,_⟩,_⟩:=h2;rw [e];rfl
 | fn f cs=>cases c<;>simp [Cn.cell] at hb
 | bm f cs=>cases c<;>simp [Cn.cell] at hb
 | val v =>
  rw [show vs[k]=v from h2]
  cases c<;>simp [Cn.cell] at hb<;>subst hb<;>first | rfl | exact YQ _ _
def content (H:List Ob):AV->Option Cn
 | .tv (.one (.b (.sl c)))=>some c
 | .tv (.one (.own i))=>match H[i]? with
  | some (.row _ c)=>some c
  | some (.tree _ c)=>bif c.flat then some c else none
  | _=>none
 | _=>none
theorem nX (hH:HI φ β M H w) {v:AV} {u:Value} {c:Cn} (hv:v.rel φ M u) (hc:content H v=some c) (h0:0<c.len) (hw0:0<c.w):∃ ad cap vs,u = .slice (some ad) c.len cap/\c.rel M vs/\∀ j x,vs[j]? = some x->w.cell? (ad.add j)=some x:=by
 unfold content at hc
 split at hc
 ·cases hc
  obtain ⟨vs,⟨A,cap,e,k1,k2,k3⟩,k4⟩:=B.jB.1 hv
  obtain ⟨u0,e4,-⟩:=k4.2.2 0 0 h0 hw0
  obtain ⟨ad,rfl,-⟩:=k3 (by rintro rfl;simp at e4)
  exact ⟨ad,cap,vs,e,k4,fun j x hx=>hH.mem _ _ (k3.at_ hx)⟩
 ·rename_i i
  split at hc
  ·rename_i e c' hi
   cases hc
   obtain ⟨vs,k1,k2,_⟩:=hH.ob i _ hi
   rw [show u=φ i from hv]
   rcases k1.2 with ⟨_,k3⟩ | ⟨g,cap,cur,k3,_⟩
   ·omega
   ·rw [k3] at k1
    exact ⟨_,cap,vs,k3,k2,fun j x hx=>by rw [fG,Nat.zero_add];exact pU k1 hx⟩
  ·rename_i es c' hi
   cases hf:c'.flat with
   | false=>rw [hf] at hc;cases hc
   | true =>
    rw [hf] at hc
    cases hc
    have ht:gX w es c (φ i) (β i):=hH.ob i _ hi
    match es,ht with
    | [e],ht =>
     obtain ⟨_,vs,k1,k2,_⟩:=ht
     rw [show u=φ i from hv]
     rcases k1.2 with ⟨_,k3⟩ | ⟨g,cap,cur,k3,_⟩
     ·omega
     ·rw [k3] at k1
      exact ⟨_,cap,vs,k3,ni hf k2,fun j x hx=>by rw [fG,Nat.zero_add];exact pU k1 hx⟩
    | e::e2::es,ht =>
     have:=ht.1
     rw [hf] at this
     cases this
  ·cases hc
 ·cases hc
theorem xJ (hH:HI φ β M H w) {v:AV} {u:Value} {c:Cn} (hv:v.rel φ M u) (hc:content H v=some c) (h0:c.len=0):∃ A cap,u = .slice A 0 cap/\c.rel M []:=by
 have hnil:∀ vs,c.rel M vs->c.rel M []:=fun vs h=>by
  have h1:vs=[]:=List.eq_nil_of_length_eq_zero (by rw [h.2.1,h0,Nat.zero_mul])
  rwa [h1] at h
 unfold content at hc
 split at hc
 ·cases hc
  obtain ⟨vs,⟨A,cap,e,k1,k2,k3⟩,k4⟩:=B.jB.1 hv
  exact ⟨A,cap,by rw [e,h0],hnil vs k4⟩
 ·rename_i i
  split at hc
  ·rename_i e c' hi
   cases hc
   obtain ⟨vs,k1,k2,_⟩:=hH.ob i _ hi
   rw [show u=φ i from hv]
   rcases k1.2 with ⟨k3,_⟩ | ⟨g,cap,cur,k3,_⟩
   ·exact ⟨none,0,k3,hnil vs k2⟩
   ·exact ⟨_,cap,by rw [k3,h0],hnil vs k2⟩
  ·rename_i es c' hi
   cases hf:c'.flat with
   | false=>rw [hf] at hc;cases hc
   | true =>
    rw [hf] at hc
    cases hc
    have ht:gX w es c (φ i) (β i):=hH.ob i _ hi
    match es,ht with
    | [e],ht =>
     obtain ⟨_,vs,k1,k2,_⟩:=ht
     rw [show u=φ i from hv]
     rcases k1.2 with ⟨k3,_⟩ | ⟨g,cap,cur,k3,_⟩
     ·exact ⟨none,0,k3,hnil vs (ni hf k2)⟩
     ·exact ⟨_,cap,by rw [k3,h0],hnil vs (ni hf k2)⟩
    | e::e2::es,ht =>
     obtain ⟨h3,_⟩:=ht
     rw [hf] at h3
     cases h3
  ·cases hc
 ·cases hc
theorem qY (w:World) (base:Nat) (t ty e:TypeId) (i:TypeInfo) (size:Nat) (ht:P.underlying t=some (.slice e)) (hi:P.info? e=some i) (v:Value) (n:Nat) (xs:List Value) (hown:w.ownsRow base e size v n xs) (c:Nat):(Builtin.append_ #[t,t] ty #[v,.slice none 0 c]).run P w = .ok v w:=by
 rcases hown.2 with ⟨rfl,rfl⟩ | ⟨g,cap,cur,rfl,hbg,hg,hnc,hcm,hcs,htake⟩
 ·simp [Builtin.append_,run_underlying ht,sizeOf,typeInfo,hi,Builtin.lenOf,Builtin.firstCells]
 ·simp [Builtin.append_,run_underlying ht,sizeOf,typeInfo,hi,Builtin.lenOf,Builtin.firstCells,hnc,storeCells]
theorem XL (h:RA P cf b N φ β M ⟨T,H⟩ a w) (hg:o.guard=none) (hd:o.dst.all (Nat.blt · N)=true) {t e:Nat} {x y:Operand} (ho:o.op = .call { callee := .builtin .append,args:=#[x,y],argTypes:=#[t,t] }) (ht:cf.ty t = .slice e) (hz:cf.sz e≠0) {i:Nat} {c c2 c':Cn}
  (hx:look T x=(true,.lf (.own i))) (hfx:b.fx.getD i false=false) (hi:H[i]? = some (.row e c)) {v:AV} (hy:look T y=(true,v)) (hc:content H v=some c2) (hw:c.w=cf.sz e) (h0:0<c2.len) (hap:c.app c2=some c') (hn:c.len+c2.len<=1073741824) (hby:cf.bytes e<=4096)
  (K:∀ φ' β' a' w',RA P cf b N φ' β' M ⟨(T.map (Lf.kill i)).put o.dst (true,.lf (.own i)),(H.map (Ob.map (Lf.kill i))).set i (.row e c')⟩ a' w'->wpList P ops Q rest a' w'):wpList P ops Q (o::rest) a w:=by
 obtain ⟨inf,hinf,hsz,hbt,z,hz1,hz2,hz3⟩:=h.cf.info e hz
 have hty:=h.cf.ty t
 rw [ht] at hty
 have hrx:a.eval x=φ i:=by have:=h.ctx.t x (by rw [hx]);rw [hx] at this;exact this
 have hry:=h.ctx.t y (by rw [hy])
 rw [hy] at hry
 obtain ⟨vs,k1,k2,hS⟩:=h.hi.ob i _ hi
 obtain ⟨e1,e2,e3,-,-⟩:=jk hap
 obtain ⟨ad,cap,vs2,q1,q2,q3⟩:=nX h.hi hry hc h0 (by rw [e3,hw];omega)
 have hzl:z.cells.size=c.w:=by rw [hz3,hw]
 refine wpList_append_own_at w hg x y t ho 0 e inf z c.w (cf.bytes e) hty hinf hz1 (by rw [hsz,hw]) hbt hzl (by rw [hw];omega) (φ i) c.len vs hrx k1 ad c2.len cap vs2 q1 (by rw [q2.2.1,e3]) q3 (fun u hu=>by have:=uy q2 u hu;cases u<;>first | rfl | exact this) (by simp only [maxLen];omega) ?_ (Nat.zero_le _) ?_
 ·have:(c.len+c2.len)*cf.bytes e<=1073741824*4096:=Nat.mul_le_mul hn hby
  omega
 ·intro v' w' r1 r2 _ r4
  have hb1:=jc k1
  have hb2:=jc r1
  have hil:i<H.length:=(List.getElem?_eq_some_iff.1 hi).1
  have hR:=h.turn (v:=v') (o' := .row e c') hil hfx (fun g=>blk v'=some g) r2 (fun g hg'=>hS g (by rw [← hb1];exact hg')) (fun g hg'=>by
   have hg2:=hg'
   rw [← hb2] at hg'
   refine ⟨(r1.lt g hg').2,?_⟩
   rcases r4 with r4 | r4
   ·exact .inl (hS g (by rw [← hb1,← r4];exact hg'))
   ·rw [r4] at hg';cases hg';exact .inr (Nat.le_refl _)) ⟨vs++vs2,by rw [e2,e1];exact r1,nU hap k2 q2,fun _ h=>h⟩ trivial
  refine K _ _ _ _ (hR.put (d:=o.dst) hd (Mem.le_refl _) hR.new hR.hi hR.below ⟨fun _=>(upd_same _ _ _).symm,fun hf=>by cases hf⟩ (AV.dL.2 ?_))
  simp [Lf.ltB,iq,hil]
theorem XK (h:RA P cf b N φ β M ⟨T,H⟩ a w) (hg:o.guard=none) (hd:o.dst.all (Nat.blt · N)=true) {t e:Nat} {x y:Operand} (ho:o.op = .call { callee := .builtin .append,args:=#[x,y],argTypes:=#[t,t] }) (ht:cf.ty t = .slice e) (hz:cf.sz e≠0) {i:Nat} {c c2 c':Cn}
  (hx:look T x=(true,.lf (.own i))) (hfx:b.fx.getD i false=false) (hi:H[i]? = some (.row e c)) {v:AV} (hy:look T y=(true,v)) (hc:content H v=some c2) (hw:c.w=cf.sz e) (h0:c2.len=0) (hap:c.app c2=some c') (hn:c.len+c2.len<=1073741824) (hby:cf.bytes e<=4096)
  (K:∀ φ' β' a' w',RA P cf b N φ' β' M ⟨(T.map (Lf.kill i)).put o.dst (true,.lf (.own i)),(H.map (Ob.map (Lf.kill i))).set i (.row e c')⟩ a' w'->wpList P ops Q rest a' w'):wpList P ops Q (o::rest) a w:=by
 obtain ⟨inf,hinf,hsz,hbt,z,hz1,hz2,hz3⟩:=h.cf.info e hz
 have hty:=h.cf.ty t
 rw [ht] at hty
 have hrx:a.eval x=φ i:=by have:=h.ctx.t x (by rw [hx]);rw [hx] at this;exact this
 have hry:=h.ctx.t y (by rw [hy])
 rw [hy] at hry
 obtain ⟨vs,k1,k2,hS⟩:=h.hi.ob i _ hi
 obtain ⟨e1,e2,e3,-,-⟩:=jk hap
 obtain ⟨A,cap,q1,q2⟩:=xJ h.hi hry hc h0
 have hzl:z.cells.size=c.w:=by rw [hz3,hw]
 have key:∀ v' w',w'.ownsRow 0 e c.w v' (c.len+c2.len) (vs++[])->w.grownBy w' (φ i).ownBlock->(v'.ownBlock=(φ i).ownBlock\/v'.ownBlock=some w.heap.size)->wpList P ops Q rest (a.put o.dst v') w':=by
  intro v' w' r1 r2 r4
  have hb1:=jc k1
  have hb2:=jc r1
  have hil:i<H.length:=(List.getElem?_eq_some_iff.1 hi).1
  have hR:=h.turn (v:=v') (o' := .row e c') hil hfx (fun g=>blk v'=some g) r2 (fun g hg'=>hS g (by rw [← hb1];exact hg')) (fun g hg'=>by
   have hg2:=hg'
   rw [← hb2] at hg'
   refine ⟨(r1.lt g hg').2,?_⟩
   rcases r4 with r4 | r4
   ·exact .inl (hS g (by rw [← hb1,← r4];exact hg'))
   ·rw [r4] at hg';cases hg';exact .inr (Nat.le_refl _)) ⟨vs++[],by rw [e2,e1];exact r1,nU hap k2 q2,fun _ h=>h⟩ trivial
  refine K _ _ _ _ (hR.put (d:=o.dst) hd (Mem.le_refl _) hR.new hR.hi hR.below ⟨fun _=>(upd_same _ _ _).symm,fun hf=>by cases hf⟩ (AV.dL.2 ?_))
  simp [Lf.ltB,iq,hil]
 cases A with
 | none =>
  refine wpList_plain hg fun K' hK' =>?_
  have hr:=qY (P:=P) w 0 t o.type e inf c.w hty hinf (φ i) c.len vs k1 cap
  unfold Oper.wp execOp
  simp only [ho,resolve,invoke,builtin,Sem.run_bind,Sem.run_pure,Result.andThen_ok,List.map_toArray,List.map_cons,List.map_nil,hrx,q1,hr]
  exact hK' _ _ (key (φ i) w (by rw [h0,List.append_nil];exact k1) ⟨rfl,rfl,rfl,Nat.le_refl _,fun _ _ _=>rfl⟩ (.inl rfl))
 | some ad =>
  refine wpList_append_own_at w hg x y t ho 0 e inf z c.w (cf.bytes e) hty hinf hz1 (by rw [hsz,hw]) hbt hzl (by rw [hw];omega) (φ i) c.len vs hrx k1 ad 0 cap [] q1 (by simp) (by simp) (by simp) (by simp only [maxLen];omega) ?_ (Nat.zero_le _) (fun v' w' r1 r2 _ r4=>key v' w' (by rw [h0];exact r1) r2 r4)
  have:(c.len+c2.len)*cf.bytes e<=1073741824*4096:=Nat.mul_le_mul hn hby
  rw [h0] at this
  omega
theorem Zy (h:RA P cf b N φ β M ⟨T,H⟩ a w) (hg:o.guard=none) (hd:o.dst.all (Nat.blt · N)=true) {t e:Nat} {x y:Operand} (ho:o.op = .call { callee := .builtin .append,args:=#[x,y],argTypes:=#[t,t] }) (ht:cf.ty t = .slice e) (hz:cf.sz e≠0) {i:Nat} {c c2 c':Cn}
  (hx:look T x=(true,.lf (.own i))) (hfx:b.fx.getD i false=false) (hi:H[i]? = some (.row e c)) {v:AV} (hy:look T y=(true,v)) (hc:content H v=some c2) (hw:c.w=cf.sz e) (hap:c.app c2=some c') (hn:c.len+c2.len<=1073741824) (hby:cf.bytes e<=4096)
  (K:∀ φ' β' a' w',RA P cf b N φ' β' M ⟨(T.map (Lf.kill i)).put o.dst (true,.lf (.own i)),(H.map (Ob.map (Lf.kill i))).set i (.row e c')⟩ a' w'->wpList P ops Q rest a' w'):wpList P ops Q (o::rest) a w:=by
 by_cases h0:0<c2.len
 ·exact XL h hg hd ho ht hz hx hfx hi hy hc hw h0 hap hn hby K
 ·exact XK h hg hd ho ht hz hx hfx hi hy hc hw (by omega) hap hn hby K
theorem below_grown (hw:w.grownBy w' none):Below w.heap.size w w':=⟨hw.os,hw.tape,hw.output,hw.size,fun k hk=>hw.block k hk (by simp)⟩
theorem Nb (h:RA P cf b N φ β M ⟨T,H⟩ a w) (hg:o.guard=none) (hd:o.dst.all (Nat.blt · N)=true) {t e:Nat} {x y:Operand} (ho:o.op = .call { callee := .builtin .append,args:=#[x,y],argTypes:=#[t,t] }) (ht:cf.ty t = .slice e) (hz:cf.sz e≠0) {c2:Cn}
  (hx:look T x=(true,.val (.slice none 0 0))) {v:AV} (hy:look T y=(true,v)) (hc:content H v=some c2) (hw:c2.w=cf.sz e) (h0:0<c2.len) (hn:c2.len<=1073741824) (hby:cf.bytes e<=4096)
  (K:∀ φ' β' a' w',RA P cf b N φ' β' M ⟨T.put o.dst (true,.lf (.own H.length)),H++[.row e c2]⟩ a' w'->wpList P ops Q rest a' w'):wpList P ops Q (o::rest) a w:=by
 obtain ⟨inf,hinf,hsz,hbt,z,hz1,hz2,hz3⟩:=h.cf.info e hz
 have hty:=h.cf.ty t
 rw [ht] at hty
 have hrx:a.eval x = .slice none 0 0:=by have:=h.ctx.t x (by rw [hx]);rw [hx] at this;exact this
 have hry:=h.ctx.t y (by rw [hy])
 rw [hy] at hry
 obtain ⟨ad,cap,vs2,q1,q2,q3⟩:=nX h.hi hry hc h0 (by rw [hw];omega)
 refine wpList_append_own_at w hg x y t ho 0 e inf z c2.w (cf.bytes e) hty hinf hz1 (by rw [hsz,hw]) hbt (by rw [hz3,hw]) (by rw [hw];omega) (.slice none 0 0) 0 [] hrx (World.ownsRow_nil _ _ _ _) ad c2.len cap vs2 q1 q2.2.1 q3 (fun u hu=>by have:=uy q2 u hu;cases u<;>first | rfl | exact this) (by simp only [maxLen];omega) ?_ (Nat.zero_le _) ?_
 ·have:(0+c2.len)*cf.bytes e<=1073741824*4096:=Nat.mul_le_mul (by omega) hby
  omega
 ·intro v' w' r1 r2 _ r4
  rw [Nat.zero_add,List.nil_append] at r1
  have hb2:=jc r1
  have hR:=h.grow (v:=v') (o := .row e c2) (below_grown r2) (fun g=>blk v'=some g) (fun g hg'=>by
   rw [← hb2] at hg'
   refine ⟨?_,(r1.lt g hg').2⟩
   rcases r4 with r4 | r4
   ·rw [r4] at hg';cases hg'
   ·rw [r4] at hg';cases hg';exact Nat.le_refl _) ⟨vs2,r1,q2,fun _ h=>h⟩ trivial
  exact K _ _ _ _ (hR.put (d:=o.dst) hd (Mem.le_refl _) hR.new hR.hi hR.below ⟨fun _=>(upd_same _ _ _).symm,fun hf=>by cases hf⟩ (AV.dL.2 (by simp [Lf.ltB])))
def zeros (cf:Cfg) (e n:Nat):Option Cn:=match emp cf e with
 | some (.ints _)=>some (.ints (List.replicate n 0))
 | some (.ii _)=>some (.ii (List.replicate n []))
 | some (.iii _)=>some (.iii (List.replicate n []))
 | some (.k m _)=>match cf.zero e with
  | [.bool false,.int .i64 0,.int .i64 0]=>some (.wk (List.replicate n (false,0,0)))
  | _=>some (.k m (List.replicate n (List.replicate m 0)))
 | some (.ki m _)=>some (.ki m (List.replicate n []))
 | some (.kii m _)=>some (.kii m (List.replicate n []))
 | some _=>none
 | none=>none
def ji:Cn->List Value
 | .ints _=>[.int .i64 0]
 | .k m _=>List.replicate m (.int .i64 0)
 | .wk _=>[.bool false,.int .i64 0,.int .i64 0]
 | _=>[.slice none 0 0]
theorem Iw {M:Mem} {c:Cn} (h0:c.len=0) (hok:c.ok):(B.sl c).rel M (.slice none 0 0) :=
 B.jB.2 ⟨[],⟨none,0,by rw [h0],by omega,by omega,fun hn=>(hn rfl).elim⟩,hok,by rw [h0,Nat.zero_mul];rfl,fun j o hj=>by omega⟩
theorem pW {α:Type} {n j:Nat} {x d:α} (h:j<n):(List.replicate n x).getD j d=x:=by
 rw [List.getD_eq_getElem?_getD,List.getElem?_replicate,if_pos h];rfl
theorem G8 {e n:Nat} {c:Cn} (hc:zeros cf e n=some c) {vs:List Value} (hl:vs.length=n*c.w) (hv:∀ j o,j<n->o<c.w->vs[j*c.w+o]? = (ji c)[o]?):c.rel M vs/\c.len=n:=by
  unfold zeros at hc
  split at hc<;>first | (cases hc;done) | skip
  all_goals try (split at hc)
  all_goals
    cases hc
    refine ⟨⟨?_,by simpa [Cn.len] using hl,fun j o hj ho =>?_⟩,by simp [Cn.len]⟩
  all_goals first
    | trivial
    | (intro x hx;rw [List.eq_of_mem_replicate hx];simp;done)
    | (simp only [Cn.len, List.length_replicate] at hj
       simp only [Cn.w] at ho hv ⊢
       refine ⟨.int .i64 0,by rw [hv j o hj ho];simp [ji,ho],?_⟩
       show _=_
       rw [pW hj,pW ho]
       done)
    | (simp only [Cn.len, List.length_replicate] at hj
       simp only [Cn.w] at ho hv ⊢
       refine ⟨.int .i64 0,by rw [hv j o hj ho,show o=0 by omega];rfl,?_⟩
       show _=_
       rw [pW hj]
       done)
    | (simp only [Cn.len, List.length_replicate] at hj
       simp only [Cn.w] at ho hv ⊢
       refine ⟨wkV (false,0,0) o,?_,?_⟩
       · rw [hv j o hj ho]
         rcases o with _ | _ | _ | o
         · rfl
         · rfl
         · rfl
         · omega
       · show _=_
         rw [pW hj]
       done)
    | (simp only [Cn.len, List.length_replicate] at hj
       simp only [Cn.w] at ho hv ⊢
       refine ⟨.slice none 0 0,by rw [hv j o hj ho,show o=0 by omega];rfl,?_⟩
       simp only [Cn.cell]
       rw [pW hj]
       exact Iw rfl (by simp [Cn.ok]))
theorem XO (h:RA P cf b N φ β M ⟨T,H⟩ a w) (hg:o.guard=none) (hd:o.dst.all (Nat.blt · N)=true) {t e:Nat} {x y:Operand} (ho:o.op = .makeSlice t x y) (ht:cf.ty t = .slice e) (hz:cf.sz e≠0) {m:Int} {c:Cn}
  (hx:look T x=(true,.int m)) (hy:look T y=(true,.int m)) (hm0:0<=m) (hm1:m<=1073741824) (hc:zeros cf e m.toNat=some c) (hw:c.w=cf.sz e) (hzv:cf.zero e=ji c) (hby:cf.bytes e<=4096)
  (K:∀ φ' β' a' w',RA P cf b N φ' β' M ⟨T.put o.dst (true,.lf (.own H.length)),H++[.row e c]⟩ a' w'->wpList P ops Q rest a' w'):wpList P ops Q (o::rest) a w:=by
 obtain ⟨inf,hinf,hsz,hbt,z,hz1,hz2,hz3⟩:=h.cf.info e hz
 have hty:=h.cf.ty t
 rw [ht] at hty
 obtain ⟨n,rfl⟩:=Int.eq_ofNat_of_zero_le hm0
 rw [Int.toNat_natCast] at hc
 have hrx:a.eval x = .int .i64 n:=by have:=h.ctx.t x (by rw [hx]);rw [hx] at this;exact this
 have hry:a.eval y = .int .i64 n:=by have:=h.ctx.t y (by rw [hy]);rw [hy] at this;exact this
 refine wpList_make_full w hg x y t ho 0 e inf z c.w hty hinf hz1 (by rw [hsz,hw]) .i64 .i64 n n n hrx hry rfl rfl ?_ (by simp only [maxLen];omega) (Nat.zero_le _) ?_
 ·rw [hbt]
  have:cf.bytes e*n<=4096*1073741824:=Nat.mul_le_mul hby (by omega)
  omega
 ·intro w' r1 r2
  have hcw:0<c.w:=by rw [hw];omega
  obtain ⟨s1,s2⟩:=G8 (M:=M) hc (vs:=(madeCells z.cells (n*c.w)).toList) (by simp [size_madeCells]) fun j o hj ho=>by
   have hlt:j*c.w+o<n*c.w:=by
    have:j*c.w+c.w<=n*c.w:=by rw [← Nat.succ_mul];exact Nat.mul_le_mul_right _ hj
    omega
   have hmod:(j*c.w+o) % z.cells.size=o:=by
    rw [hz3,← hw,Nat.mul_comm,Nat.mul_add_mod]
    exact Nat.mod_eq_of_lt ho
   have ho2:o<z.cells.size:=by rw [hz3,← hw];exact ho
   rw [← hzv,← hz2]
   simp only [madeCells,Array.toList_map,Array.toList_range,List.getElem?_map,List.getElem?_range hlt,Option.map_some,hmod]
   simp [ho2]
  have hR:=h.grow (v := .slice (some ⟨w.heap.size,0,none⟩) n n) (o := .row e c) (below_grown r2) (fun g=>g=w.heap.size) (fun g hg'=>by
   subst hg'
   exact ⟨Nat.le_refl _,(r1.lt w.heap.size rfl).2⟩) ⟨_,by rw [s2];exact r1,s1,fun g hg'=>by simp [blk] at hg';omega⟩ trivial
  exact K _ _ _ _ (hR.put (d:=o.dst) hd (Mem.le_refl _) hR.new hR.hi hR.below ⟨fun _=>(upd_same _ _ _).symm,fun hf=>by cases hf⟩ (AV.dL.2 (by simp [Lf.ltB])))
end
theorem JW {place:Nat->Option (Nat×Nat)}:∀ (ps:List (Nat×Value)) (k:Nat) (cs:Array Value),(∀ (j:Nat) p,ps[j]? = some p->place p.1=some (k+((ps.take j).flatMap fun q=>q.2.cells.toList).length,p.2.cells.size))->k+(ps.flatMap fun q=>q.2.cells.toList).length<=cs.size ->
  ∃ r,Instr.fill place cs ps=some r/\r.toList=splice cs.toList k (ps.flatMap fun q=>q.2.cells.toList)
 | [],k,cs,_,_=>⟨cs,rfl,by simp [wP]⟩
 | (i,v)::ps,k,cs,hp,hl=>by
  have h0:=hp 0 (i,v) rfl
  simp only [List.take_zero,List.flatMap_nil,List.length_nil,Nat.add_zero] at h0
  simp only [List.flatMap_cons,List.length_append,Array.length_toList] at hl
  have h1:=qE v.cells.toList 0 k cs (by simp;omega)
  have hz:v.cells.zipIdx.foldl (fun cs (p:Value×Nat)=>cs.setIfInBounds (k+p.2) p.1) cs=(v.cells.toList.zipIdx 0).foldl (fun cs (p:Value×Nat)=>cs.setIfInBounds (k+p.2) p.1) cs:=by
   rw [← Array.foldl_toList,Array.toList_zipIdx]
  obtain ⟨r,h2,h3⟩:=JW (place:=place) ps (k+v.cells.size) (v.cells.zipIdx.foldl (fun cs (p:Value×Nat)=>cs.setIfInBounds (k+p.2) p.1) cs) (fun j p hj=>by
   have:=hp (j+1) p (by simpa using hj)
   rw [this]
   simp [Nat.add_assoc]) (by
   have e:(v.cells.zipIdx.foldl (fun cs (p:Value×Nat)=>cs.setIfInBounds (k+p.2) p.1) cs).toList.length=cs.toList.length:=by rw [hz,h1,cO]
   simp only [Array.length_toList] at e
   rw [e]
   omega)
  refine ⟨r,?_,?_⟩
  ·unfold Instr.fill
   simp only [h0]
   rw [if_neg (by simp;omega)]
   exact h2
  ·rw [h3,hz,h1,List.flatMap_cons,← Oy _ _ _ _ (by simp only [Array.length_toList];omega)]
   simp
def sF:List TV->Option Cn
 | []=>none
 | [v]=>mG v
 | v::vs=>match mG v,sF vs with
  | some c,some d=>c.app d
  | _,_=>none
theorem DJ {φ:Nat->Value} {M:Mem}:∀ {vs:List TV} {c:Cn} {us:List Value},sF vs=some c->us.length=vs.length->(∀ j (h:j<vs.length) (h':j<us.length),gQ φ M vs[j].cs us[j].cells.toList)->c.rel M (us.flatMap fun u=>u.cells.toList)/\c.len=vs.length
 | [],c,us,h,_,_=>by cases h
 | [v],c,us,h,hl,hr=>by
  match us,hl with
  | [u],_ =>
   obtain ⟨h1,h2⟩:=KP (φ:=φ) (M:=M) h (hr 0 (by simp) (by simp))
   simpa [h2] using h1
 | v::v2::vs,c,us,h,hl,hr=>by
  match us,hl with
  | u::us,hl =>
   simp only [sF] at h
   split at h
   ·rename_i c1 d h1 h2
    obtain ⟨k1,k2⟩:=KP (φ:=φ) (M:=M) h1 (hr 0 (by simp) (by simp))
    obtain ⟨k3,k4⟩:=DJ (φ:=φ) (M:=M) (vs:=v2::vs) (us:=us) h2 (by simpa using hl) fun j hj hj'=>hr (j+1) (by simpa using hj) (by simpa using hj')
    obtain ⟨e1,-⟩:=jk h
    refine ⟨?_,by rw [e1,k2,k4];simp;omega⟩
    rw [List.flatMap_cons]
    exact nU h k1 k3
   ·cases h
def Mem.ext (M:Mem) (w w':World):Mem:=fun ad=>if ad.block<w.heap.size then M ad else w'.cell? ad
def Lf.frz (i:Nat) (c:Cn):Lf->Lf
 | .own j=>bif Nat.beq j i then .b (.sl c) else .own j
 | .ptr j o=>bif Nat.beq j i then .und else .ptr j o
 | .oa j w k o=>bif Nat.beq j i then .und else .oa j w k o
 | x=>x
theorem UJ {i n:Nat} {c:Cn} {x:Lf} (h:x.ltB n=true):(x.frz i c).ltB n=true:=by
 cases x<;>simp only [Lf.frz]<;>first | exact h | (cases Nat.beq _ i<;>first | rfl | exact h)
section
variable {P:Program} {cf:Cfg} {b:Base} {N:Nat} {φ:Nat->Value} {β:Nat->Nat->Prop} {M:Mem} {T:Tm} {H:List Ob} {a:Act} {w w':World}
variable {ops:Array Oper} {o:Oper} {Q:Exit->Act->World->Prop} {rest:List Oper}
theorem RA.ext (h:RA P cf b N φ β M ⟨T,H⟩ a w) (hb:Below w.heap.size w w'):M.le (M.ext w w')/\RA P cf b N φ β (M.ext w w') ⟨T,H⟩ a w':=by
 have hm:M.le (M.ext w w'):=fun ad v e=>by
  unfold Mem.ext
  rw [if_pos (DU h.hi e)]
  exact e
 have hn:∀ ad v,M.ext w w' ad=some v->w'.cell? ad=some v/\(M ad=some v\/w.heap.size<=ad.block):=fun ad v e=>by
  unfold Mem.ext at e
  by_cases hlt:ad.block<w.heap.size
  ·rw [if_pos hlt] at e
   exact ⟨(h.hi.below hb).mem ad v e,.inl e⟩
  ·rw [if_neg hlt] at e
   exact ⟨e,.inr (by omega)⟩
 refine ⟨hm,h.cf,Mem.le_trans h.le hm,fun ad v e =>?_,h.hi.more hb hm hn,fun t=>⟨fun ht=>AV.aX hm ((h.t t).1 ht),(h.t t).2⟩,h.lt,h.own,h.size,h.below.below hb,h.fix,h.defers⟩
 rcases (hn ad v e).2 with h9 | h9
 ·exact h.new ad v h9
 ·exact .inr (.inl (Nat.le_trans h.below.size h9))
open Classical in
noncomputable def Mem.with (M:Mem) (S:Nat->Prop) (w:World):Mem:=fun ad=>if S ad.block then w.cell? ad else M ad
theorem Mem.oJ {S:Nat->Prop} {ad:Addr} (h:S ad.block):M.with S w ad=w.cell? ad:=by unfold Mem.with;rw [if_pos h]
theorem Mem.jO {S:Nat->Prop} {ad:Addr} (h:¬ S ad.block):M.with S w ad=M ad:=by unfold Mem.with;rw [if_neg h]
theorem RA.give (h:RA P cf b N φ β M ⟨T,H⟩ a w) {i:Nat} (hil:i<H.length) (f:Lf->Lf) (hf:∀ y:Lf,∀ u,y.rel φ M u->(f y).rel φ (M.with (β i) w) u) (hfl:∀ (n:Nat) (y:Lf),y.ltB n=true->(f y).ltB n=true) :
  RA P cf b N φ (dI β i fun _=>False) (M.with (β i) w) ⟨T.map f,(H.map (Ob.map f)).set i .gone⟩ a w:=by
 have hm:M.le (M.with (β i) w):=fun ad v e=>by
  rw [Mem.jO fun e2=>h.hi.off i ad.block hil e2 ad v e rfl]
  exact e
 have hn:∀ ad v,M.with (β i) w ad=some v->w.cell? ad=some v/\(M ad=some v\/β i ad.block):=fun ad v e=>by
  by_cases hb:β i ad.block
  ·rw [Mem.oJ hb] at e
   exact ⟨e,.inr hb⟩
  ·rw [Mem.jO hb] at e
   exact ⟨h.hi.mem ad v e,.inl e⟩
 have hlen:((H.map (Ob.map f)).set i .gone).length=H.length:=by simp
 have hcase:∀ (j:Nat) (p:Ob),((H.map (Ob.map f)).set i .gone)[j]? = some p->(j≠i/\∃ q,H[j]? = some q/\p=q.map f)\/(j=i/\p = .gone):=fun j p hj=>by
  simp only [List.getElem?_set] at hj
  split at hj
  ·rename_i e
   subst e
   simp [hil] at hj
   exact .inr ⟨rfl,hj.symm⟩
  ·rename_i e
   rw [List.getElem?_map] at hj
   simp only [Option.map_eq_some_iff] at hj
   obtain ⟨q,h1,h2⟩:=hj
   exact .inl ⟨fun k=>e k.symm,q,h1,h2.symm⟩
 have hβ:∀ j g,dI β i (fun _=>False) j g->j≠i/\β j g:=fun j g hg=>by
  rcases hg with ⟨_,h1⟩ | h1
  ·exact h1.elim
  ·exact h1
 refine ⟨h.cf,Mem.le_trans h.le hm,fun ad v e =>?_,⟨fun ad v e=>(hn ad v e).1,fun j p hj =>?_,fun j g hj hg ad u e =>?_,fun j k g hj hk hg hg' =>?_,fun j g hj hg =>?_,fun j p hj =>?_⟩,fun t=>⟨fun ht=>AV.og ((h.t t).1 ht) fun y _ u hu=>hf y u hu,(h.t t).2⟩,fun t =>?_,fun j g hj hg =>?_,h.size,h.below,⟨?_,h.fix.2⟩,h.defers⟩
 ·rcases (hn ad v e).2 with h9 | h9
  ·exact h.new ad v h9
  ·exact .inr (h.own i ad.block hil h9)
 ·rcases hcase j p hj with ⟨hne,q,h1,rfl⟩ | ⟨rfl,rfl⟩
  ·rw [bG _ _ hne]
   exact Ob.og (h.hi.wf j q h1) hm (h.hi.ob j q h1) fun y _ u hu=>hf y u hu
  ·trivial
 ·rw [hlen] at hj
  obtain ⟨h1,h2⟩:=hβ j g hg
  rcases (hn ad u e).2 with h9 | h9
  ·exact h.hi.off j g hj h2 ad u h9
  ·intro e2
   exact h1 (h.hi.inj j i g hj hil h2 (by rw [← e2];exact h9))
 ·rw [hlen] at hj hk
  exact h.hi.inj j k g hj hk (hβ j g hg).2 (hβ k g hg').2
 ·rw [hlen] at hj
  exact h.hi.lt j g hj (hβ j g hg).2
 ·rw [hlen]
  rcases hcase j p hj with ⟨hne,q,h1,rfl⟩ | ⟨rfl,rfl⟩
  ·exact Ob.map_lt (h.hi.wf j q h1) (hfl _)
  ·trivial
 ·show AV.lt _ _
  rw [hlen]
  exact AV.map_lt (h.lt t) (hfl _)
 ·rw [hlen] at hj
  exact h.own j g hj (hβ j g hg).2
 ·show _<=((H.map (Ob.map f)).set i .gone).length
  rw [hlen]
  exact h.fix.1
theorem PN (h:RA P cf b N φ β M ⟨T,H⟩ a w) {i:Nat} (hil:i<H.length) {c:Cn} (hsl:(B.sl c).rel (M.with (β i) w) (φ i)):∀ y:Lf,∀ u,y.rel φ M u->(y.frz i c).rel φ (M.with (β i) w) u:=fun y u hy=>by
 have hm:M.le (M.with (β i) w):=fun ad v e=>by
  rw [Mem.jO fun e2=>h.hi.off i ad.block hil e2 ad v e rfl]
  exact e
 cases y with
 | own j =>
  simp only [Lf.frz]
  cases e:Nat.beq j i with
  | true =>
   have:=Nat.eq_of_beq_eq_true e
   subst this
   rw [show u=φ j from hy]
   exact hsl
  | false=>exact hy
 | ptr j o=>simp only [Lf.frz];cases Nat.beq j i<;>first | trivial | exact hy
 | oa j w k o=>simp only [Lf.frz];cases Nat.beq j i<;>first | trivial | exact hy
 | und=>trivial
 | b x=>exact Lf.aX (φ:=φ) hm (x := .b x) hy
 | ea c j o=>exact Lf.aX (φ:=φ) hm (x := .ea c j o) hy
 | ip xs o=>exact Lf.aX (φ:=φ) hm (x := .ip xs o) hy
theorem RA.freeze (h:RA P cf b N φ β M ⟨T,H⟩ a w) {i e:Nat} {c:Cn} (hi:H[i]? = some (.row e c)):∃ β' M',RA P cf b N φ β' M' ⟨T.map (Lf.frz i c),(H.map (Ob.map (Lf.frz i c))).set i .gone⟩ a w:=by
 have hil:i<H.length:=(List.getElem?_eq_some_iff.1 hi).1
 obtain ⟨vs,k1,k2,hS⟩:=h.hi.ob i _ hi
 refine ⟨_,_,h.give hil _ (PN h hil (D7 k1 (Cn.aX (fun ad v e =>?_) k2) fun ad v hb hv =>?_)) fun n y hy=>UJ hy⟩
 ·rw [Mem.jO fun e2=>h.hi.off i ad.block hil e2 ad v e rfl]
  exact e
 ·rw [Mem.oJ (hS _ hb)]
  exact hv
theorem RA.XU (h:RA P cf b N φ β M ⟨T,H⟩ a w) {i:Nat} {es:List Nat} {c:Cn} (hi:H[i]? = some (.tree es c)):∃ β' M',RA P cf b N φ β' M' ⟨T.map (Lf.frz i c),(H.map (Ob.map (Lf.frz i c))).set i .gone⟩ a w:=by
 have hil:i<H.length:=(List.getElem?_eq_some_iff.1 hi).1
 have ht:gX w es c (φ i) (β i):=h.hi.ob i _ hi
 exact ⟨_,_,h.give hil _ (PN h hil (ht.rel fun ad v hb hv=>by rw [Mem.oJ hb];exact hv)) fun n y hy=>UJ hy⟩
end
def Cn.deep:Cn->Nat
 | .ints _=>1
 | .k _ _=>1
 | .ii _=>2
 | .ki _ _=>2
 | .iii _=>3
 | .kii _ _=>3
 | .bo _=>1
 | .bbo _=>2
 | .nl _=>1
 | .wk _=>1
def Cn.wrap:Cn->Option Cn
 | .ints xs=>some (.ii [xs])
 | .ii xs=>some (.iii [xs])
 | .k n xs=>some (.ki n [xs])
 | .ki n xs=>some (.kii n [xs])
 | .bo xs=>some (.bbo [xs])
 | _=>none
def Cn.pV (c:Cn) (j:Nat) (d:Cn):Option Cn:=match c,d with
 | .ii xs,.ints ys=>some (.ii (xs.set j ys))
 | .iii xs,.ii ys=>some (.iii (xs.set j ys))
 | .ki n xs,.k m ys=>bif Nat.beq n m then some (.ki n (xs.set j ys)) else none
 | .kii n xs,.ki m ys=>bif Nat.beq n m then some (.kii n (xs.set j ys)) else none
 | .bbo xs,.bo ys=>some (.bbo (xs.set j ys))
 | _,_=>none
theorem Sv {c c' d:Cn} {j:Nat} (h:c.pV j d=some c') (hj:j<c.len):c'.len=c.len/\c.flat=false/\c'.flat=false/\c'.sub j=d/\∀ k,k≠j->c'.sub k=c.sub k:=by
 unfold Cn.pV at h
 split at h
 case h_6=>cases h
 case h_5 xs ys =>
  cases h
  exact ⟨by simp [Cn.len],rfl,rfl,by simp only [Cn.sub,bD _ _ _ _ _ hj,if_true],fun k hk=>by simp only [Cn.sub,bD _ _ _ _ _ hj,if_neg hk]⟩
 case h_1 xs ys =>
  cases h
  exact ⟨by simp [Cn.len],rfl,rfl,by simp only [Cn.sub,bD _ _ _ _ _ hj,if_true],fun k hk=>by simp only [Cn.sub,bD _ _ _ _ _ hj,if_neg hk]⟩
 case h_2 xs ys =>
  cases h
  exact ⟨by simp [Cn.len],rfl,rfl,by simp only [Cn.sub,bD _ _ _ _ _ hj,if_true],fun k hk=>by simp only [Cn.sub,bD _ _ _ _ _ hj,if_neg hk]⟩
 case h_3 n xs m ys =>
  obtain ⟨rfl,rfl⟩:=beq_eq h
  exact ⟨by simp [Cn.len],rfl,rfl,by simp only [Cn.sub,bD _ _ _ _ _ hj,if_true],fun k hk=>by simp only [Cn.sub,bD _ _ _ _ _ hj,if_neg hk]⟩
 case h_4 n xs m ys =>
  obtain ⟨rfl,rfl⟩:=beq_eq h
  exact ⟨by simp [Cn.len],rfl,rfl,by simp only [Cn.sub,bD _ _ _ _ _ hj,if_true],fun k hk=>by simp only [Cn.sub,bD _ _ _ _ _ hj,if_neg hk]⟩
theorem Tc {c d:Cn} (h:d.wrap=some c):c.len=1/\c.flat=false/\c.sub 0=d:=by
 unfold Cn.wrap at h
 split at h<;>cases h<;>exact ⟨rfl,rfl,rfl⟩
theorem Xw {c c2 c':Cn} (h:c.app c2=some c') (hf:c.flat=false):c'.len=c.len+c2.len/\c'.flat=false/\c2.flat=false/\∀ j,(j<c.len->c'.sub j=c.sub j)/\(¬ j<c.len->c'.sub j=c2.sub (j-c.len)):=by
  have h0:=jk h
  unfold Cn.app at h
  split at h<;>first | (simp [Cn.flat] at hf;done) | (cases h;done) | skip
  all_goals first
    | (cases h
       exact ⟨h0.1,rfl,rfl,fun j=>⟨fun hj=>by simp only [Cn.sub];rw [ny _ _ _ hj],fun hj=>by simp only [Cn.sub];rw [nC _ _ _ hj];rfl⟩⟩)
    | (obtain ⟨rfl, rfl⟩ := beq_eq h
       first
         | (simp [Cn.flat] at hf;done)
         | exact ⟨h0.1,rfl,rfl,fun j=>⟨fun hj=>by simp only [Cn.sub];rw [ny _ _ _ hj],fun hj=>by simp only [Cn.sub];rw [nC _ _ _ hj];rfl⟩⟩)
def Ob.oO:Ob->Option (List Nat×Cn)
 | .row e c=>bif c.flat then some ([e],c) else none
 | .tree es c=>some (es,c)
 | .hole _ _ _ _ _=>none
 | .cut _ _ _ _ _=>none
 | .box _=>none
 | .gone=>none
def Fh:List Nat->Cn->Ob
 | [e],c => .row e c
 | es,c => .tree es c
theorem D6 {φ:Nat->Value} {S:Nat->Prop} {M:Mem} {w:World} {u:Value} {o:Ob} {es:List Nat} {c:Cn} (h:o.oO=some (es,c)) (k:o.rel φ S M w u):gX w es c u S:=by
 cases o with
 | row e c' =>
  simp only [Ob.oO] at h
  cases hf:c'.flat with
  | false=>rw [hf] at h;cases h
  | true =>
   rw [hf] at h
   cases h
   obtain ⟨vs,k1,k2,k3⟩:=k
   exact ⟨hf,vs,k1,ni hf k2,k3⟩
 | tree es' c'=>cases h;exact k
 | _=>cases h
theorem Vu {φ:Nat->Value} {S:Nat->Prop} {M:Mem} {w:World} {u:Value} {es:List Nat} {c:Cn} (k:gX w es c u S):(Fh es c).rel φ S M w u:=by
 match es,k with
 | [e],k =>
  obtain ⟨h0,vs,h1,h2,h3⟩:=k
  exact ⟨vs,h1,ni h0 h2,h3⟩
 | e::e2::es,k=>exact k
theorem Yg {es:List Nat} {c:Cn} (n:Nat):(Fh es c).lt n:=by
 match es with
 | []=>exact trivial
 | [e]=>exact trivial
 | e::e2::es=>exact trivial
theorem acY {w:World} {S:Nat->Prop}:∀ {es:List Nat} {c:Cn},es.length=c.deep->c.len=0->c.ok->gX w es c (.slice none 0 0) S
 | [],c,h,_,_=>by cases c<;>simp [Cn.deep] at h
 | [e],c,h,h0,hok=>⟨by cases c<;>simp [Cn.deep] at h<;>rfl,[],by rw [h0];exact ⟨by simp,.inl ⟨rfl,rfl⟩⟩,⟨hok,by rw [h0];simp,fun j o hj=>by omega⟩,fun g hg=>by cases hg⟩
 | e::e2::es,c,h,h0,hok=>⟨by cases c<;>simp [Cn.deep] at h<;>rfl,[],fun _ _=>False,by rw [h0];exact World.ownsRow_nil _ _ _ _,fun g hg=>(by cases hg),fun _ _ h=>h.elim,fun _ _ _ h=>h.elim,fun j v hj=>(by omega)⟩
def oK (j:Nat):Ob->Option (Nat×List Nat×Cn)
 | .tree (e::e2::es) c=>some (e,e2::es,c)
 | .tree _ _=>none
 | .hole e es c k _=>bif Nat.beq k j then some (e,es,c) else none
 | .row _ _=>none
 | .cut _ _ _ _ _=>none
 | .box _=>none
 | .gone=>none
theorem Np {φ:Nat->Value} {S:Nat->Prop} {M:Mem} {w:World} {u:Value} {o:Ob} {j e:Nat} {es:List Nat} {c:Cn} (h:oK j o=some (e,es,c)) (k:o.rel φ S M w u):mX φ M w e es c j .und u S:=by
 unfold oK at h
 split at h
 case h_1 e' e2 es' c' =>
  cases h
  obtain ⟨h0,vs,Ss,h1,h2,h3,h4,h5⟩:gX w (e::e2::es') c u S:=k
  exact ⟨h0,vs,Ss,h1,h2,fun j g _ hg=>h3 j g hg,h4,fun j v hj hv=>⟨fun _=>h5 j v hj hv,fun _=>trivial⟩⟩
 case h_3 e' es' c' k' x =>
  obtain ⟨h6,h7⟩:=beq_eq h
  subst h6
  cases h7
  exact mX.imp k fun _ _=>trivial
 all_goals cases h
theorem mX.fill {φ:Nat->Value} {M:Mem} {w:World} {e:Nat} {es:List Nat} {c c' d:Cn} {j:Nat} {m:Nat} {u:Value} {S S2:Nat->Prop} (h:mX φ M w e es c j (.own m) u S) (hd:gX w es d (φ m) S2) (hp:c.pV j d=some c') (hj:j<c.len) (hdis:∀ g,S g->¬ S2 g):gX w (e::es) c' u (fun g=>S g\/S2 g):=by
 obtain ⟨h0,vs,Ss,h1,h2,h3,h4,h5⟩:=h
 obtain ⟨p1,p2,p3,p4,p5⟩:=Sv hp hj
 match es,hd with
 | e2::es,hd =>
  refine ⟨p3,vs,fun k g=>(k=j/\S2 g)\/(k≠j/\Ss k g),by rw [p1];exact h1,fun g hg=>⟨.inl (h2 g hg).1,fun k hk =>?_⟩,fun k g hg =>?_,fun k l g hg hg' =>?_,fun k v hk hv =>?_⟩
  ·rcases hk with ⟨_,hk⟩ | ⟨_,hk⟩
   ·exact hdis g (h2 g hg).1 hk
   ·exact (h2 g hg).2 k hk
  ·rcases hg with ⟨_,hg⟩ | ⟨hk,hg⟩
   ·exact .inr hg
   ·exact .inl (h3 k g hk hg)
  ·rcases hg with ⟨hk,hg⟩ | ⟨hk,hg⟩<;>rcases hg' with ⟨hl,hg'⟩ | ⟨hl,hg'⟩
   ·rw [hk,hl]
   ·exact (hdis g (h3 l g hl hg') hg).elim
   ·exact (hdis g (h3 k g hk hg) hg').elim
   ·exact h4 k l g hg hg'
  ·rw [p1] at hk
   obtain ⟨q1,q2⟩:=h5 k v hk hv
   by_cases e:k=j
   ·subst e
    rw [p4]
    have:v=φ m:=q2 rfl
    rw [this]
    exact hd.mono fun g hg => .inl ⟨rfl,hg⟩
   ·rw [p5 k e]
    exact (q1 e).mono fun g hg => .inr ⟨e,hg⟩
section
variable {P:Program} {cf:Cfg} {b:Base} {N:Nat} {φ:Nat->Value} {β:Nat->Nat->Prop} {M:Mem} {T:Tm} {H:List Ob} {a:Act} {w w':World}
variable {ops:Array Oper} {o:Oper} {Q:Exit->Act->World->Prop} {rest:List Oper} {K:Act->World->Prop}
theorem RA.merge (h:RA P cf b N φ β M ⟨T,H⟩ a w) {i m:Nat} (hi:i<H.length) (hm:m<H.length) (hne:i≠m) {o':Ob} {r:Option Nat} (hw:w.grownBy w' r) (hr:∀ g,r=some g->β i g) (ho:o'.rel φ (fun g=>β i g\/β m g) M w' (φ i)) (hlt:o'.lt H.length) :
  RA P cf b N φ (dI (dI β i fun g=>β i g\/β m g) m fun _=>False) M ⟨T.map (Lf.kill m),((H.map (Ob.map (Lf.kill m))).set i o').set m .gone⟩ a w':=by
 have hlen:(((H.map (Ob.map (Lf.kill m))).set i o').set m .gone).length=H.length:=by simp
 have hone:∀ j,j<(((H.map (Ob.map (Lf.kill m))).set i o').set m .gone).length->H.length<=j\/(j=i\/j=m)->j=i\/j=m:=fun j hj hc=>by rcases hc with hc | hc;omega;exact hc
 have hbm:∀ g,dI (dI β i fun g=>β i g\/β m g) m (fun _=>False) m g->False:=fun g hg=>by rw [aS] at hg;exact hg
 have hbi:∀ g,dI (dI β i fun g=>β i g\/β m g) m (fun _=>False) i g->β i g\/β m g:=fun g hg=>by rw [bG _ _ hne,aS] at hg;exact hg
 exact h.change (w':=w') (Lf.kill m) (fun j=>j=i\/j=m) (φ':=φ) (H':=((H.map (Ob.map (Lf.kill m))).set i o').set m .gone) ⟨hw.os,hw.tape,hw.output,hw.size,fun k hk hn=>hw.block k hk fun e=>hn ⟨i,hi,.inl rfl,hr k e.symm⟩⟩ (by simp)
  (fun y hy u hu=>by have:=yj (i:=m) (v:=φ m) hu;rwa [show upd φ m (φ m)=φ from by funext j;unfold upd;cases e:Nat.beq j m with | true=>rw [Nat.eq_of_beq_eq_true e];rfl | false=>rfl] at this) (fun y hy=>by rw [hlen];exact uw hy)
  (fun j p hj hne'=>by
   refine ⟨?_,rfl,by rw [bG _ _ fun e=>hne' (.inr e),bG _ _ fun e=>hne' (.inl e)]⟩
   rw [List.getElem?_set,if_neg (fun e=>hne' (.inr e.symm)),List.getElem?_set,if_neg (fun e=>hne' (.inl e.symm)),List.getElem?_map,hj]
   rfl)
  (fun j p hj hc=>by
   rcases hone j (List.getElem?_eq_some_iff.1 hj).1 hc with rfl | rfl
   ·rw [List.getElem?_set,if_neg (fun e=>hne e.symm),List.getElem?_set,if_pos rfl,if_pos (by simpa using hi)] at hj
    cases hj
    rw [bG _ _ hne,aS]
    exact ⟨ho,by rw [hlen];exact hlt⟩
   ·rw [List.getElem?_set,if_pos rfl,if_pos (by simpa using hm)] at hj
    cases hj
    exact ⟨trivial,trivial⟩)
  (fun j g hj hc hg=>by
   rcases hone j hj hc with rfl | rfl
   ·rcases hbi g hg with h1 | h1
    ·exact ⟨Nat.lt_of_lt_of_le (h.hi.lt _ g hi h1) hw.size,.inr ⟨j,hi,.inl rfl,h1⟩⟩
    ·exact ⟨Nat.lt_of_lt_of_le (h.hi.lt _ g hm h1) hw.size,.inr ⟨m,hm,.inr rfl,h1⟩⟩
   ·exact (hbm g hg).elim)
  (fun j k g hj hk hc hc' hg hg'=>by
   rcases hone j hj hc with rfl | rfl<;>rcases hone k hk hc' with rfl | rfl
   ·rfl
   ·exact (hbm g hg').elim
   ·exact (hbm g hg).elim
   ·rfl)
  (fun j hj=>rfl)
theorem Ll (h:RA P cf b N φ β M ⟨T,H⟩ a w) {t:Nat} {x y:Operand} (ho:o.op = .store t x y) (hz:cf.sz t=1) {i j m:Nat} (hx:look T x=(true,.lf (.oa i 1 j 0))) (hy:look T y=(true,.lf (.own m))) (hne:i≠m) {e:Nat} {es:List Nat} {c c' d:Cn} {oi om:Ob} (hoi:H[i]? = some oi) (hom:H[m]? = some om)
  (hi:oK j oi=some (e,es,c)) (hm:om.oO=some (es,d)) (hj:j<c.len) (hp:c.pV j d=some c') :
  ∃ (w':World) (g:Nat),(execOp a.eval o).run P w = .ok .skip w'/\w.grownBy w' (some g)/\β i g/\(Ob.tree (e::es) c').rel φ (fun g=>β i g\/β m g) M w' (φ i):=by
 have hrx:=h.ctx.t x (by rw [hx])
 rw [hx] at hrx
 obtain ⟨g,n,cap,h1,h2⟩:=hrx
 have hry:a.eval y=φ m:=by have:=h.ctx.t y (by rw [hy]);rw [hy] at this;exact this
 have hil:=(List.getElem?_eq_some_iff.1 hoi).1
 have hml:=(List.getElem?_eq_some_iff.1 hom).1
 have hT:=D6 hm (h.hi.ob m om hom)
 obtain ⟨eo,vo,q1,q2⟩:=hT.outer
 have hlitm:kZ (φ m)=true:=by rcases q1.2 with ⟨q3,_⟩ | ⟨g',cap',cur,q3,_⟩<;>rw [q3]<;>rfl
 obtain ⟨h0,vs,Ss,k1,k2,k3,k4,k5⟩:=Np hi (h.hi.ob i oi hoi)
 have k1':=k1
 rw [h1] at k1'
 obtain ⟨k1l,k1r⟩:=k1'
 rcases k1r with ⟨k6,_⟩ | ⟨g',cap',cur,k6,_,k7,k8,k9,k10,k11⟩
 ·cases k6
 cases k6
 rw [Nat.mul_one] at k1l k10 k11
 have hcells:(a.eval y).cells=#[φ m]:=by rw [hry];exact cells_one hlitm
 obtain ⟨w',s1,s2,s3⟩:=oG h.cf (w:=w) (off:=j*1+0) (u:=a.eval y) (t:=t) (by omega) k7 (by rw [hcells,hz];rfl) (by rw [hcells];intro v hv;simp at hv;rw [hv];exact hlitm) (by omega)
 have hrun:(execOp a.eval o).run P w = .ok .skip w':=by
  simp only [execOp,ho,h2,Sem.run_bind,s1,Result.andThen_ok,Sem.run_pure]
 have hbi:β i g:=(k2 g (by rw [h1];rfl)).1
 have hsp:splice cur.toList (j*1+0) (a.eval y).cells.toList=cur.toList.set j (φ m):=by
  rw [hcells,Nat.mul_one,Nat.add_zero]
  refine List.ext_getElem? fun k =>?_
  rw [dH _ _ _ (by simp;omega),List.getElem?_set]
  by_cases hk:j=k
  ·subst hk
   simp
   omega
  ·rw [if_neg (by simp;omega),if_neg hk]
 rw [hsp] at s2
 have hrow:w'.ownsRow 0 e 1 (φ i) c.len (vs.set j (φ m)):=by
  rw [h1]
  refine ⟨by simp;omega,.inr ⟨g,cap,_,rfl,Nat.zero_le _,s2,k8,k9,by simp;omega,?_⟩⟩
  rw [Nat.mul_one,← k11]
  show (cur.toList.set j (φ m)).take c.len=(cur.toList.take c.len).set j (φ m)
  rw [List.take_set]
 have hkeep:∀ g',g'≠g->(∃ k,k<H.length/\β k g')->w'.heap[g']? = w.heap[g']? := fun g' hne' ⟨k,hk,hg'⟩=>s3.block g' (h.hi.lt k g' hk hg') (by simpa using hne')
 have hH:mX φ M w' e es c j (.own m) (φ i) (β i):=by
  refine ⟨h0,vs.set j (φ m),Ss,hrow,k2,k3,k4,fun k v hk hv =>?_⟩
  rw [List.getElem?_set] at hv
  by_cases hjk:j=k
  ·subst hjk
   rw [if_pos rfl,if_pos (by omega)] at hv
   cases hv
   exact ⟨fun hn=>(hn rfl).elim,fun _=>rfl⟩
  ·rw [if_neg hjk] at hv
   refine ⟨fun hn=>((k5 k v hk hv).1 hn).keep fun g' hg' =>?_,fun e=>(hjk e.symm).elim⟩
   have hb:=k3 k g' hn hg'
   refine hkeep g' (fun e =>?_) ⟨i,hil,hb⟩
   subst e
   exact (k2 g' (by rw [h1];rfl)).2 k hg'
 have hT':gX w' es d (φ m) (β m):=hT.keep fun g' hg'=>by
  refine hkeep g' (fun e =>?_) ⟨m,hml,hg'⟩
  subst e
  exact hne (h.hi.inj i m g' hil hml hbi hg')
 exact ⟨w',g,hrun,s3,hbi,hH.fill hT' hp hj fun g' hg hg'=>hne (h.hi.inj i m g' hil hml hg hg')⟩
theorem Zv (h:RA P cf b N φ β M ⟨T,H⟩ a w) (hd:o.dst=none) {t:Nat} {x y:Operand} (ho:o.op = .store t x y) (hz:cf.sz t=1) {i j m:Nat} (hx:look T x=(true,.lf (.oa i 1 j 0))) (hy:look T y=(true,.lf (.own m))) (hne:i≠m) {e:Nat} {es:List Nat} {c c' d:Cn} {oi om:Ob} (hoi:H[i]? = some oi) (hom:H[m]? = some om)
  (hi:oK j oi=some (e,es,c)) (hm:om.oO=some (es,d)) (hj:j<c.len) (hp:c.pV j d=some c')
  (hK:∀ β' a' w',RA P cf b N φ β' M ⟨T.map (Lf.kill m),((H.map (Ob.map (Lf.kill m))).set i (.tree (e::es) c')).set m .gone⟩ a' w'->K a' w'):o.wp P a w K Q:=by
 obtain ⟨w',g,hrun,hgr,hbi,hrel⟩:=Ll h ho hz hx hy hne hoi hom hi hm hj hp
 unfold Oper.wp
 rw [hrun]
 have hput:a.put o.dst undef=a:=by rw [hd];rfl
 show K (a.put o.dst undef) w'
 rw [hput]
 exact hK _ a w' (h.merge (List.getElem?_eq_some_iff.1 hoi).1 (List.getElem?_eq_some_iff.1 hom).1 hne hgr (fun k e=>by cases e;exact hbi) hrel trivial)
theorem RA.unfocus (h:RA P cf b N φ β M ⟨T,H⟩ a w) {i j m:Nat} (hne:i≠m) {e:Nat} {es:List Nat} {c c' d:Cn} {om:Ob} (hoi:H[i]? = some (.hole e es c j (.own m))) (hom:H[m]? = some om) (hm:om.oO=some (es,d)) (hj:j<c.len) (hp:c.pV j d=some c') :
  ∃ β',RA P cf b N φ β' M ⟨T.map (Lf.kill m),((H.map (Ob.map (Lf.kill m))).set i (.tree (e::es) c')).set m .gone⟩ a w:=by
 have hil:=(List.getElem?_eq_some_iff.1 hoi).1
 have hml:=(List.getElem?_eq_some_iff.1 hom).1
 have hH:mX φ M w e es c j (.own m) (φ i) (β i):=h.hi.ob i _ hoi
 exact ⟨_,h.merge (w':=w) (r:=none) hil hml hne (grownBy_refl _ _) (fun g hg=>by cases hg) (hH.fill (D6 hm (h.hi.ob m om hom)) hp hj fun g hg hg'=>hne (h.hi.inj i m g hil hml hg hg')) trivial⟩
theorem RA.focus (h:RA P cf b N φ β M ⟨T,H⟩ a w) {i j e e2:Nat} {es:List Nat} {c:Cn} (hoi:H[i]? = some (.tree (e::e2::es) c)) (hj:j<c.len) :
  ∃ g arr t u,(∃ n cap,φ i = .slice (some ⟨g,0,none⟩) n cap)/\w.heap[g]? = some (.cells arr t (0,0))/\arr.toList[j]? = some u/\∃ β',RA P cf b N (upd φ H.length u) β' M ⟨T,(H.set i (.hole e (e2::es) c j (.own H.length)))++[Fh (e2::es) (c.sub j)]⟩ a w:=by
 have hil:=(List.getElem?_eq_some_iff.1 hoi).1
 obtain ⟨h0,vs,Ss,h1,h2,h3,h4,h5⟩:gX w (e::e2::es) c (φ i) (β i):=h.hi.ob i _ hoi
 have hlv:=h1.1
 rw [Nat.mul_one] at hlv
 have hjv:j<vs.length:=by omega
 have hvj:vs[j]? = some vs[j]:=List.getElem?_eq_getElem hjv
 generalize hu:vs[j]=u at hvj
 rcases h1.2 with ⟨_,k1⟩ | ⟨g,cap,cur,k1,_,k2,k3,k4,k5,k6⟩
 ·omega
 refine ⟨g,cur,e,u,⟨_,cap,k1⟩,k2,?_,?_⟩
 ·rw [← k6,List.getElem?_take] at hvj
  split at hvj
  ·exact hvj
  ·cases hvj
 have hlen:((H.set i (.hole e (e2::es) c j (.own H.length)))++[Fh (e2::es) (c.sub j)]).length=H.length+1:=by simp
 have hφ:∀ k,k<H.length->upd φ H.length u k=φ k:=fun k hk=>upd_ne φ u (by omega)
 let S1:Nat->Prop:=fun g=>blk (φ i)=some g\/∃ k,k≠j/\Ss k g
 have hone:∀ k,k<H.length+1->H.length<=k\/k=i->k=i\/k=H.length:=fun k hk hc=>by rcases hc with hc | hc<;>omega
 have hbi:∀ g,dI (dI β i S1) H.length (Ss j) i g->S1 g:=fun g hg=>by rw [bG _ _ (by omega),aS] at hg;exact hg
 have hbn:∀ g,dI (dI β i S1) H.length (Ss j) H.length g->Ss j g:=fun g hg=>by rw [aS] at hg;exact hg
 have hS1:∀ g,S1 g->β i g:=fun g hg=>by
  rcases hg with hg | ⟨k,_,hg⟩
  ·exact (h2 g hg).1
  ·exact h3 k g hg
 have hd:∀ g,S1 g->Ss j g->False:=fun g hg hg'=>by
  rcases hg with hg | ⟨k,hk,hg⟩
  ·exact (h2 g hg).2 j hg'
  ·exact hk (h4 k j g hg hg')
 have:=h.change (w':=w) id (fun k=>k=i) (φ':=upd φ H.length u) (β':=dI (dI β i S1) H.length (Ss j)) (H':=(H.set i (.hole e (e2::es) c j (.own H.length)))++[Fh (e2::es) (c.sub j)]) (Kept.refl _ _) (by simp)
  (fun y hy v hv=>Lf.jK hy hφ hv) (fun y hy=>iF (by simp) hy)
  (fun k p hk hne=>by
   have hlt:=(List.getElem?_eq_some_iff.1 hk).1
   refine ⟨?_,hφ k hlt,by rw [bG _ _ (by omega),bG _ _ hne]⟩
   rw [List.getElem?_append_left (by simpa using hlt),List.getElem?_set,if_neg (fun e=>hne e.symm),Ob.map_id]
   exact hk)
  (fun k p hk hc=>by
   rcases hone k (by rw [← hlen];exact (List.getElem?_eq_some_iff.1 hk).1) hc with rfl | rfl
   ·rw [List.getElem?_append_left (by simpa using hil),List.getElem?_set,if_pos rfl,if_pos hil] at hk
    cases hk
    rw [bG _ _ (by omega),aS,hφ k hil]
    refine ⟨⟨h0,vs,Ss,h1,fun g hg=>⟨.inl hg,(h2 g hg).2⟩,fun l g hl hg => .inr ⟨l,hl,hg⟩,h4,fun l v hl hv=>⟨fun _=>h5 l v hl hv,fun e3 =>?_⟩⟩,by rw [hlen];simp [Ob.lt,Lf.ltB]⟩
    subst e3
    rw [hvj] at hv
    cases hv
    exact (upd_same _ _ _).symm
   ·rw [List.getElem?_append_right (by simp)] at hk
    simp at hk
    subst hk
    rw [aS,upd_same]
    exact ⟨Vu (h5 j u hj hvj),Yg _⟩)
  (fun k g hk hc hg=>by
   rcases hone k (by rw [← hlen];exact hk) hc with rfl | rfl
   ·have:=hS1 g (hbi g hg)
    exact ⟨h.hi.lt k g hil this,.inr ⟨k,hil,rfl,this⟩⟩
   ·have:=h3 j g (hbn g hg)
    exact ⟨h.hi.lt i g hil this,.inr ⟨i,hil,rfl,this⟩⟩)
  (fun k l g hk hl hc hc' hg hg'=>by
   rcases hone k (by rw [← hlen];exact hk) hc with rfl | rfl<;>rcases hone l (by rw [← hlen];exact hl) hc' with rfl | rfl
   ·rfl
   ·exact (hd g (hbi g hg) (hbn g hg')).elim
   ·exact (hd g (hbi g hg') (hbn g hg)).elim
   ·rfl)
  (fun k hk=>hφ k (Au h hk))
 rw [Tm.map_id] at this
 exact ⟨_,this⟩
theorem Ud (h:RA P cf b N φ β M ⟨T,H⟩ a w) (hd:o.dst.all (Nat.blt · N)=true) {t:Nat} {x:Operand} (ho:o.op = .load t x) (ht:match cf.ty t with | .bad=>False | _=>True) (hag:(cf.ty t).agg=false) {i j e e2:Nat} {es:List Nat} {c:Cn} (hx:look T x=(true,.lf (.oa i 1 j 0))) (hoi:H[i]? = some (.tree (e::e2::es) c)) (hj:j<c.len)
  (hK:∀ φ' β' a' w',RA P cf b N φ' β' M ⟨T.put o.dst (true,.lf (.own H.length)),(H.set i (.hole e (e2::es) c j (.own H.length)))++[Fh (e2::es) (c.sub j)]⟩ a' w'->K a' w'):o.wp P a w K Q:=by
 have hrx:=h.ctx.t x (by rw [hx])
 rw [hx] at hrx
 obtain ⟨g0,n,cap,h1,h2⟩:=hrx
 obtain ⟨g,arr,tt,u,⟨n',cap',k1⟩,k2,k3,β',hR⟩:=h.focus hoi hj
 rw [h1] at k1
 cases k1
 unfold Oper.wp
 have hrun:(execOp a.eval o).run P w = .ok (.value u) w:=by
  have:=I7 h.cf ht hag (w:=w) (ad:=⟨g0,j*1+0,none⟩) (u:=u) (by rw [pF k2,Nat.mul_one,Nat.add_zero];exact k3)
  simp only [execOp,ho,h2,Sem.run_bind,this,Result.andThen_ok,Sem.run_pure]
 rw [hrun]
 exact hK _ _ _ _ (hR.put (d:=o.dst) hd (Mem.le_refl _) hR.new hR.hi hR.below ⟨fun _=>(upd_same _ _ _).symm,fun hf=>by cases hf⟩ (AV.dL.2 (by simp [Lf.ltB])))
end
theorem TV.map_map (f g:Lf->Lf) (x:TV):(x.map f).map g=x.map (fun y=>g (f y)):=by cases x<;>simp [TV.map]
theorem AV.map_map (f g:Lf->Lf) (x:AV):(x.map f).map g=x.map (fun y=>g (f y)):=by
 cases x with
 | tv x=>simp [AV.map,TV.map_map]
 | clo k xs=>simp [AV.map]
 | tup xs=>simp [AV.map,TV.map_map]
theorem Tm.map_map (f g:Lf->Lf) (T:Tm):(T.map f).map g=T.map (fun y=>g (f y)):=by
 funext t
 simp only [Tm.map,AV.map_map]
theorem Ob.map_map (f g:Lf->Lf) (o:Ob):(o.map f).map g=o.map (fun y=>g (f y)):=by cases o<;>simp [Ob.map]
theorem Dx {φ:Nat->Value} {M:Mem} {i:Nat} {u:Value} {x:Lf} (h:x.rel φ M u):(x.kill i).rel φ M u:=by
 have:=yj (i:=i) (v:=φ i) h
 rwa [show upd φ i (φ i)=φ from by funext j;unfold upd;cases e:Nat.beq j i with | true=>rw [Nat.eq_of_beq_eq_true e];rfl | false=>rfl] at this
section
variable {P:Program} {cf:Cfg} {b:Base} {N:Nat} {φ:Nat->Value} {β:Nat->Nat->Prop} {M:Mem} {T:Tm} {H:List Ob} {a:Act} {w w':World}
variable {ops:Array Oper} {o:Oper} {Q:Exit->Act->World->Prop} {rest:List Oper} {K:Act->World->Prop}
theorem RA.toT (h:RA P cf b N φ β M ⟨T,H⟩ a w) {i e e2:Nat} {es:List Nat} {c:Cn} (hi:H[i]? = some (.row e c)) (h0:c.len=0) (hf:c.flat=false):RA P cf b N φ β M ⟨T,H.set i (.tree (e::e2::es) c)⟩ a w:=by
 have hil:=(List.getElem?_eq_some_iff.1 hi).1
 obtain ⟨vs,h1,h2,h3⟩:=h.hi.ob i _ hi
 have hw:c.w=1:=by cases c<;>simp [Cn.flat] at hf<;>rfl
 rw [hw] at h1
 exact h.set (w':=w) (r:=none) hil (grownBy_refl _ _) (fun g hg=>by cases hg) (show gX w (e::e2::es) c (φ i) (β i) from ⟨hf,vs,fun _ _=>False,h1,fun g hg=>⟨h3 g hg,fun _ h=>h⟩,fun _ _ h=>h.elim,fun _ _ _ h=>h.elim,fun j v hj=>by omega⟩) trivial
theorem XM (h:RA P cf b N φ β M ⟨T,H⟩ a w) (hg:o.guard=none) (hd:o.dst.all (Nat.blt · N)=true) {t e e2:Nat} {es:List Nat} {x y:Operand} (ho:o.op = .call { callee := .builtin .append,args:=#[x,y],argTypes:=#[t,t] }) (ht:cf.ty t = .slice e) (hz:cf.sz e=1) {i m:Nat} (hne:i≠m) {c c2 c':Cn}
  (hx:look T x=(true,.lf (.own i))) (hfx:b.fx.getD i false=false) (hi:H[i]? = some (.tree (e::e2::es) c)) (hy:look T y=(true,.lf (.own m))) (hm:H[m]? = some (.tree (e::e2::es) c2)) (h0:0<c2.len) (hap:c.app c2=some c') (hn:c.len+c2.len<=1073741824) (hby:cf.bytes e<=4096)
  (K:∀ φ' β' a' w',RA P cf b N φ' β' M ⟨((T.map (Lf.kill m)).map (Lf.kill i)).put o.dst (true,.lf (.own i)),(((H.map (Ob.map (Lf.kill m))).map (Ob.map (Lf.kill i))).set i (.tree (e::e2::es) c')).set m .gone⟩ a' w'->wpList P ops Q rest a' w'):wpList P ops Q (o::rest) a w:=by
 obtain ⟨inf,hinf,hsz,hbt,z,hz1,hz2,hz3⟩:=h.cf.info e (by omega)
 have hty:=h.cf.ty t
 rw [ht] at hty
 have hil:=(List.getElem?_eq_some_iff.1 hi).1
 have hml:=(List.getElem?_eq_some_iff.1 hm).1
 have hrx:a.eval x=φ i:=by have:=h.ctx.t x (by rw [hx]);rw [hx] at this;exact this
 have hry:a.eval y=φ m:=by have:=h.ctx.t y (by rw [hy]);rw [hy] at this;exact this
 obtain ⟨h0i,vs,Ss,i1,i2,i3,i4,i5⟩:gX w (e::e2::es) c (φ i) (β i):=h.hi.ob i _ hi
 obtain ⟨h0m,vs2,Ss2,m1,m2,m3,m4,m5⟩:gX w (e::e2::es) c2 (φ m) (β m):=h.hi.ob m _ hm
 obtain ⟨p1,p2,p3,p4⟩:=Xw hap h0i
 have hdis:∀ g,β i g->β m g->False:=fun g hg hg'=>hne (h.hi.inj i m g hil hml hg hg')
 rcases m1.2 with ⟨_,q0⟩ | ⟨g2,cap2,cur2,q1,_,q2,q3,q4,q5,q6⟩
 ·omega
 have hvl:vs.length=c.len:=by have:=i1.1;omega
 have hvl2:vs2.length=c2.len:=by have:=m1.1;omega
 have hlit:∀ u∈vs2,kZ u=true:=fun u hu=>by
  obtain ⟨j,hj,rfl⟩:=List.getElem_of_mem hu
  obtain ⟨eo,vo,r1,_⟩:=(m5 j _ (by omega) (List.getElem?_eq_getElem hj)).outer
  rcases r1.2 with ⟨r2,_⟩ | ⟨g',cap',cur',r2,_⟩<;>rw [r2]<;>rfl
 refine wpList_append_own_at w hg x y t ho 0 e inf z 1 (cf.bytes e) hty hinf hz1 (by rw [hsz,hz]) hbt (by rw [hz3,hz]) (by omega) (φ i) c.len vs hrx i1 ⟨g2,0,none⟩ c2.len cap2 vs2 (by rw [hry,q1]) (by omega) (fun j u hu=>by
   rw [fG,Nat.zero_add]
   rw [q1] at m1
   exact pU m1 hu) (fun u hu=>by have:=hlit u hu;cases u<;>first | rfl | exact this) (by simp only [maxLen];omega) ?_ (Nat.zero_le _) ?_
 ·have:(c.len+c2.len)*cf.bytes e<=1073741824*4096:=Nat.mul_le_mul hn hby
  omega
 ·intro v' w' r1 r2 _ r4
  have hb1:=jc i1
  have hb2:=jc r1
  have hbv:∀ g,blk v'=some g->g<w'.heap.size/\(β i g\/w.heap.size<=g)/\(blk (φ i)=some g\/w.heap.size<=g):=fun g hg=>by
   have hg2:=hg
   rw [← hb2] at hg
   refine ⟨(r1.lt g hg).2,?_⟩
   rcases r4 with r4 | r4
   ·have:blk (φ i)=some g:=by rw [← hb1,← r4];exact hg
    exact ⟨.inl (i2 g this).1,.inl this⟩
   ·rw [r4] at hg;cases hg;exact ⟨.inr (Nat.le_refl _),.inr (Nat.le_refl _)⟩
  have hkeep:∀ g,blk (φ i)≠some g->g<w.heap.size->w'.heap[g]? = w.heap[g]? := fun g hg hlt=>r2.block g hlt (by rw [hb1];exact fun e=>hg e.symm)
  let S':Nat->Prop:=fun g=>blk v'=some g\/(∃ j,Ss j g)\/∃ j,Ss2 j g
  have hS':∀ g,S' g->g<w'.heap.size/\(w.heap.size<=g\/∃ k,k<H.length/\(k=i\/k=m)/\β k g):=fun g hg=>by
   rcases hg with hg | ⟨j,hg⟩ | ⟨j,hg⟩
   ·obtain ⟨k1,k2,_⟩:=hbv g hg
    refine ⟨k1,?_⟩
    rcases k2 with k2 | k2
    ·exact .inr ⟨i,hil,.inl rfl,k2⟩
    ·exact .inl k2
   ·have:=i3 j g hg
    exact ⟨Nat.lt_of_lt_of_le (h.hi.lt i g hil this) r2.size,.inr ⟨i,hil,.inl rfl,this⟩⟩
   ·have:=m3 j g hg
    exact ⟨Nat.lt_of_lt_of_le (h.hi.lt m g hml this) r2.size,.inr ⟨m,hml,.inr rfl,this⟩⟩
  have hnb:∀ g j,Ss j g->blk (φ i)≠some g:=fun g j hg e=>(i2 g e).2 j hg
  have hnb2:∀ g j,Ss2 j g->blk (φ i)≠some g:=fun g j hg e=>hdis g (i2 g e).1 (m3 j g hg)
  have hT:gX w' (e::e2::es) c' v' S':=by
   refine ⟨p2,vs++vs2,fun j g=>(j<c.len/\Ss j g)\/(¬ j<c.len/\Ss2 (j-c.len) g),by rw [p1];exact r1,fun g hg=>⟨.inl hg,fun j hj =>?_⟩,fun j g hg =>?_,fun j k g hg hg' =>?_,fun j v hj hv =>?_⟩
   ·obtain ⟨_,_,k3⟩:=hbv g hg
    rcases hj with ⟨_,hj⟩ | ⟨_,hj⟩
    ·rcases k3 with k3 | k3
     ·exact hnb g j hj k3
     ·have:=h.hi.lt i g hil (i3 j g hj);omega
    ·rcases k3 with k3 | k3
     ·exact hnb2 g _ hj k3
     ·have:=h.hi.lt m g hml (m3 _ g hj);omega
   ·rcases hg with ⟨_,hg⟩ | ⟨_,hg⟩
    ·exact .inr (.inl ⟨j,hg⟩)
    ·exact .inr (.inr ⟨_,hg⟩)
   ·rcases hg with ⟨hj,hg⟩ | ⟨hj,hg⟩<;>rcases hg' with ⟨hk,hg'⟩ | ⟨hk,hg'⟩
    ·exact i4 j k g hg hg'
    ·exact (hdis g (i3 j g hg) (m3 _ g hg')).elim
    ·exact (hdis g (i3 k g hg') (m3 _ g hg)).elim
    ·have:=m4 _ _ g hg hg';omega
   ·rw [p1] at hj
    by_cases hjc:j<c.len
    ·rw [(p4 j).1 hjc]
     rw [List.getElem?_append_left (by omega)] at hv
     refine ((i5 j v hjc hv).keep fun g hg=>hkeep g (hnb g j hg) (h.hi.lt i g hil (i3 j g hg))).mono fun g hg => .inl ⟨hjc,hg⟩
    ·rw [(p4 j).2 hjc]
     rw [List.getElem?_append_right (by omega),hvl] at hv
     refine ((m5 (j-c.len) v (by omega) hv).keep fun g hg=>hkeep g (hnb2 g _ hg) (h.hi.lt m g hml (m3 _ g hg))).mono fun g hg => .inr ⟨hjc,hg⟩
  have hlen:((((H.map (Ob.map (Lf.kill m))).map (Ob.map (Lf.kill i))).set i (.tree (e::e2::es) c')).set m .gone).length=H.length:=by simp
  have hone:∀ j,j<H.length->H.length<=j\/(j=i\/j=m)->j=i\/j=m:=fun j hj hc=>by rcases hc with hc | hc;omega;exact hc
  have hbm:∀ g,dI (dI β i S') m (fun _=>False) m g->False:=fun g hg=>by rw [aS] at hg;exact hg
  have hbi:∀ g,dI (dI β i S') m (fun _=>False) i g->S' g:=fun g hg=>by rw [bG _ _ hne,aS] at hg;exact hg
  have hR:=h.change (w':=w') (fun y=>(y.kill m).kill i) (fun j=>j=i\/j=m) (φ':=upd φ i v') (β':=dI (dI β i S') m fun _=>False) (H':=(((H.map (Ob.map (Lf.kill m))).map (Ob.map (Lf.kill i))).set i (.tree (e::e2::es) c')).set m .gone)
   ⟨r2.os,r2.tape,r2.output,r2.size,fun k hk hn'=>r2.block k hk fun e=>hn' ⟨i,hil,.inl rfl,(i2 k (by rw [← hb1];exact e.symm)).1⟩⟩ (by simp)
   (fun y hy u hu=>yj (Dx hu)) (fun y hy=>by rw [hlen];exact uw (uw hy))
   (fun j p hj hne'=>by
    refine ⟨?_,upd_ne φ v' fun e=>hne' (.inl e),by rw [bG _ _ fun e=>hne' (.inr e),bG _ _ fun e=>hne' (.inl e)]⟩
    rw [List.getElem?_set,if_neg (fun e=>hne' (.inr e.symm)),List.getElem?_set,if_neg (fun e=>hne' (.inl e.symm)),List.getElem?_map,List.getElem?_map,hj]
    simp only [Option.map_some,Ob.map_map])
   (fun j p hj hc=>by
    rcases hone j (by rw [← hlen];exact (List.getElem?_eq_some_iff.1 hj).1) hc with rfl | rfl
    ·rw [List.getElem?_set,if_neg (fun e=>hne e.symm),List.getElem?_set,if_pos rfl,if_pos (by simpa using hil)] at hj
     cases hj
     rw [bG _ _ hne,aS,upd_same]
     exact ⟨hT,trivial⟩
    ·rw [List.getElem?_set,if_pos rfl,if_pos (by simpa using hml)] at hj
     cases hj
     exact ⟨trivial,trivial⟩)
   (fun j g hj hc hg=>by
    rcases hone j (by rw [← hlen];exact hj) hc with rfl | rfl
    ·exact hS' g (hbi g hg)
    ·exact (hbm g hg).elim)
   (fun j k g hj hk hc hc' hg hg'=>by
    rcases hone j (by rw [← hlen];exact hj) hc with rfl | rfl<;>rcases hone k (by rw [← hlen];exact hk) hc' with rfl | rfl
    ·rfl
    ·exact (hbm g hg').elim
    ·exact (hbm g hg).elim
    ·rfl)
   (fun j hj=>upd_ne φ v' fun e=>by rw [e,hfx] at hj;cases hj)
  rw [← Tm.map_map] at hR
  refine K _ _ _ _ (hR.put (d:=o.dst) hd (Mem.le_refl _) hR.new hR.hi hR.below ⟨fun _=>(upd_same _ _ _).symm,fun hf=>by cases hf⟩ (AV.dL.2 ?_))
  show Lf.ltB _ _=true
  rw [hlen]
  simpa [Lf.ltB] using hil
end
def plug:List Ob->List Nat->List Ob->List Ob
 | H,s::σ,o::os=>plug (H.set s o) σ os
 | H,[],os=>H++os
 | H,_::_,[]=>H
theorem GH:∀ {σ:List Nat} {H os:List Ob},σ.Nodup->(∀ s∈σ,s<H.length)->σ.length<=os.length ->
  (plug H σ os).length=H.length+(os.length-σ.length)/\(∀ i,i<H.length->i ∉ σ->(plug H σ os)[i]? = H[i]?)/\(∀ k,k<os.length->(plug H σ os)[cu σ H.length k]? = os[k]?)
 | [],H,os,_,_,_=>by
  refine ⟨by simp [plug],fun i hi _=>by rw [plug,List.getElem?_append_left hi],fun k hk =>?_⟩
  simp only [plug,cu,List.getElem?_nil,List.length_nil,Nat.sub_zero]
  rw [List.getElem?_append_right (by omega)]
  congr 1
  omega
 | s::σ,H,o::os,hn,hs,hl=>by
  rw [List.nodup_cons] at hn
  obtain ⟨h1,h2,h3⟩:=GH (H:=H.set s o) hn.2 (fun t ht=>by rw [List.length_set];exact hs t (by simp [ht])) (by simpa using hl)
  simp only [List.length_set] at h1 h2 h3
  refine ⟨by simp only [plug,h1,List.length_cons];omega,fun i hi hne =>?_,fun k hk =>?_⟩
  ·simp only [plug]
   rw [h2 i hi (fun e=>hne (by simp [e])),List.getElem?_set,if_neg (fun e=>hne (by simp [e]))]
  ·simp only [plug]
   cases k with
   | zero =>
    have e:cu (s::σ) H.length 0=s:=rfl
    rw [e,h2 s (hs s (by simp)) hn.1,List.getElem?_set,if_pos rfl,if_pos (hs s (by simp))]
    rfl
   | succ k =>
    have e:cu (s::σ) H.length (k+1)=cu σ H.length k:=by
     unfold cu
     simp only [List.getElem?_cons_succ,List.length_cons]
     cases σ[k]? with
     | some t=>rfl
     | none=>simp only;omega
    rw [e,h3 k (by simpa using hk)]
    simp
 | s::σ,H,[],_,_,hl=>by simp at hl
def back (σ:List Nat) (n i:Nat):Option Nat:=match σ.findIdx? (· == i) with
 | some k=>some k
 | none=>if n<=i then some (σ.length+(i-n)) else none
theorem yM {σ:List Nat} {n k:Nat} (hk:k<σ.length):cu σ n k=σ[k]:=by
 unfold cu
 rw [List.getElem?_eq_getElem hk]
theorem BJ {σ:List Nat} {n k:Nat} (hk:σ.length<=k):cu σ n k=n+(k-σ.length):=by
 unfold cu
 rw [List.getElem?_eq_none hk]
theorem TN {σ:List Nat} {n:Nat} (hn:σ.Nodup) (hs:∀ s∈σ,s<n) (k:Nat):back σ n (cu σ n k)=some k:=by
 rcases Nat.lt_or_ge k σ.length with hk | hk
 ·rw [yM hk]
  unfold back
  have:σ.findIdx? (· == σ[k])=some k:=by
   rw [List.findIdx?_eq_some_iff_getElem]
   refine ⟨hk,by simp,fun j hj =>?_⟩
   have:=List.pairwise_iff_getElem.1 hn j k (by omega) hk hj
   simpa using this
  rw [this]
 ·rw [BJ hk]
  unfold back
  have:σ.findIdx? (· == n+(k-σ.length))=none:=by
   rw [List.findIdx?_eq_none_iff]
   intro s h1
   have:=hs s h1
   simp
   omega
  rw [this]
  simp only
  rw [if_pos (by omega)]
  congr 1
  omega
theorem FK {σ:List Nat} {n i:Nat} (hi:i<n) (h:i ∉ σ):back σ n i=none:=by
 unfold back
 have:σ.findIdx? (· == i)=none:=by
  rw [List.findIdx?_eq_none_iff]
  intro s h1
  have:s≠i:=fun e=>h (e ▸ h1)
  simpa using this
 rw [this]
 simp only
 rw [if_neg (by omega)]
theorem dO {φ:Nat->Value} {M:Mem} {ρ:Nat->Nat} {x:Lf} {u:Value}:(x.ren ρ).rel φ M u↔x.rel (fun k=>φ (ρ k)) M u:=by
 cases x<;>exact Iff.rfl
theorem TV.dO {φ:Nat->Value} {M:Mem} {ρ:Nat->Nat} {x:TV} {u:Value}:(x.map (Lf.ren ρ)).rel φ M u↔x.rel (fun k=>φ (ρ k)) M u:=by
 cases x with
 | one x=>exact Am.dO
 | agg xs =>
  constructor
  ·rintro ⟨us,e,h1,h2⟩
   simp only [List.length_map] at h1
   exact ⟨us,e,h1,fun j hj hj'=>by have:=h2 j (by simpa using hj) hj';rw [List.getElem_map] at this;exact Am.dO.1 this⟩
  ·rintro ⟨us,e,h1,h2⟩
   exact ⟨us,e,by simpa using h1,fun j hj hj'=>by rw [List.getElem_map];exact Am.dO.2 (h2 j (by simpa using hj) hj')⟩
theorem AV.dO {φ:Nat->Value} {M:Mem} {ρ:Nat->Nat} {x:AV} {u:Value}:(x.map (Lf.ren ρ)).rel φ M u↔x.rel (fun k=>φ (ρ k)) M u:=by
 cases x with
 | tv x=>exact TV.dO
 | clo f xs =>
  constructor
  ·rintro ⟨us,e,h1,h2⟩
   simp only [List.length_map] at h1
   exact ⟨us,e,h1,fun j hj hj'=>by have:=h2 j (by simpa using hj) hj';rw [List.getElem_map] at this;exact Am.dO.1 this⟩
  ·rintro ⟨us,e,h1,h2⟩
   exact ⟨us,e,by simpa using h1,fun j hj hj'=>by rw [List.getElem_map];exact Am.dO.2 (h2 j (by simpa using hj) hj')⟩
 | tup xs =>
  constructor
  ·rintro ⟨us,e,h1,h2⟩
   simp only [List.length_map] at h1
   exact ⟨us,e,h1,fun j hj hj'=>by have:=h2 j (by simpa using hj) hj';rw [List.getElem_map] at this;exact TV.dO.1 this⟩
  ·rintro ⟨us,e,h1,h2⟩
   exact ⟨us,e,by simpa using h1,fun j hj hj'=>by rw [List.getElem_map];exact TV.dO.2 (h2 j (by simpa using hj) hj')⟩
theorem Ob.dO {φ:Nat->Value} {S:Nat->Prop} {M:Mem} {w:World} {ρ:Nat->Nat} {o:Ob} {u:Value}:(o.map (Lf.ren ρ)).rel φ S M w u↔o.rel (fun k=>φ (ρ k)) S M w u:=by
 cases o with
 | box cs =>
  constructor
  ·rintro ⟨g,arr,t,h1,h2,⟨h3,h4⟩,h5⟩
   simp only [List.length_map] at h3
   exact ⟨g,arr,t,h1,h2,⟨h3,fun j hj hj'=>by have:=h4 j (by simpa using hj) hj';rw [List.getElem_map] at this;exact Am.dO.1 this⟩,h5⟩
  ·rintro ⟨g,arr,t,h1,h2,⟨h3,h4⟩,h5⟩
   exact ⟨g,arr,t,h1,h2,⟨by simpa using h3,fun j hj hj'=>by rw [List.getElem_map];exact Am.dO.2 (h4 j (by simpa using hj) hj')⟩,h5⟩
 | hole e es c k x=>exact ⟨fun h=>mX.imp h fun _=>Am.dO.1,fun h=>mX.imp h fun _=>Am.dO.2⟩
 | cut e e2 c k x=>exact ⟨fun h=>rG.imp h (Mem.le_refl _) fun _=>Am.dO.1,fun h=>rG.imp h (Mem.le_refl _) fun _=>Am.dO.2⟩
 | _=>exact Iff.rfl
theorem IV {ρ:Nat->Nat} {n m:Nat} (hρ:∀ k,k<n->ρ k<m) {x:Lf} (h:x.ltB n=true):(x.ren ρ).ltB m=true:=by
 cases x<;>simp [Lf.ltB,Lf.ren] at h ⊢<;>exact hρ _ h
def Lf.eG (ks:List Nat):Lf->Lf
 | .own i=>bif ks.contains i then .und else .own i
 | .ptr i o=>bif ks.contains i then .und else .ptr i o
 | .oa i w j o=>bif ks.contains i then .und else .oa i w j o
 | x=>x
theorem U7 {ks:List Nat} {n:Nat} {x:Lf} (h:x.ltB n=true):(x.eG ks).ltB n=true:=by
 cases x<;>simp only [Lf.eG]<;>first | exact h | (cases List.contains ks _<;>first | rfl | exact h)
def picks (H:List Ob) (ρ:Nat->Nat):List Nat->List Ob->Prop
 | [],[]=>True
 | s::σ,o::os=>H[s]? = some (o.map (Lf.ren ρ))/\picks H ρ σ os
 | _,_=>False
theorem wH {H:List Ob} {ρ:Nat->Nat}:∀ {σ:List Nat} {os:List Ob},picks H ρ σ os->os.length=σ.length/\∀ (k:Nat) (o:Ob),os[k]? = some o->∃ s,σ[k]? = some s/\H[s]? = some (o.map (Lf.ren ρ))
 | [],[],_=>⟨rfl,fun k o h=>by simp at h⟩
 | s::σ,o::os,⟨h1,h2⟩=>by
  obtain ⟨h3,h4⟩:=wH h2
  refine ⟨by simp [h3],fun k p hk =>?_⟩
  cases k with
  | zero=>simp at hk;subst hk;exact ⟨s,rfl,h1⟩
  | succ k=>exact h4 k p (by simpa using hk)
 | [],_::_,h=>h.elim
 | _::_,[],h=>h.elim
def lost:List Nat->List Bool->List Nat
 | [],_=>[]
 | s::σ,[]=>s::lost σ []
 | s::σ,f::fx=>bif f then lost σ fx else s::lost σ fx
theorem zL:∀ {σ:List Nat} {fx:List Bool} {k:Nat},k<σ.length->fx.getD k false=false->σ.getD k 0∈lost σ fx
 | [],_,_,h,_=>by simp at h
 | s::σ,[],k,h,_=>by
  cases k with
  | zero=>simp [lost]
  | succ k=>simpa [lost] using .inr (zL (σ:=σ) (fx:=[]) (k:=k) (by simpa using h) (by simp))
 | s::σ,f::fx,k,h,hf=>by
  cases k with
  | zero=>simp at hf;subst hf;simp [lost]
  | succ k =>
   have:=zL (σ:=σ) (fx:=fx) (k:=k) (by simpa using h) (by simpa using hf)
   cases f<;>simp [lost]<;>simp at this<;>first | exact this | exact .inr this
structure OO (P:Program) (fx0:List Bool) (X:St) (c:Call) (σ:List Nat) (r:AV) (Hout:List Ob) (ks:List Nat):Prop where
 go:∃ f xs args fx Hin,bQ X.T c=some (true,f,xs)/\(∀ x∈c.args.toList,(look X.T x).1=true)/\(c.args.toList.map fun x=>(look X.T x).2)++xs.map (fun y=>AV.lf y)=args.map (AV.map (Lf.ren (cu σ X.H.length))) /\
  picks X.H (cu σ X.H.length) σ Hin/\(∀ o∈Hin,o.lt Hin.length)/\bP P f args fx Hin r Hout/\ks=lost σ fx
 nodup:σ.Nodup
 lt:∀ s∈σ,s<X.H.length
 fx:∀ s∈ks,fx0.getD s false=false
section
variable {P:Program} {cf:Cfg} {b:Base} {N:Nat} {φ:Nat->Value} {β:Nat->Nat->Prop} {M:Mem} {T:Tm} {H:List Ob} {a:Act} {w w':World}
variable {ops:Array Oper} {o:Oper} {Q:Exit->Act->World->Prop} {rest:List Oper} {K:Act->World->Prop}
theorem CQ (h:RA P cf b N φ β M ⟨T,H⟩ a w) (hd:o.dst.all (Nat.blt · N)=true) {c:Call} (ho:o.op = .call c) {σ ks:List Nat} {r:AV} {Hout:List Ob} (hc:OO P b.fx ⟨T,H⟩ c σ r Hout ks)
  (hK:∀ φ' β' M' a' w',RA P cf b N φ' β' M' ⟨(T.map (Lf.eG ks)).put o.dst (true,r.map (Lf.ren (cu σ H.length))),plug (H.map (Ob.map (Lf.eG ks))) σ (Hout.map (Ob.map (Lf.ren (cu σ H.length))))⟩ a' w'->K a' w'):o.wp P a w K Q:=by
 obtain ⟨⟨f,xs,args,fx,Hin,h1,h2,h3,h4,h5,hspec,rfl⟩,hnd,hlt,hfx⟩:=hc
 simp only at h1 h2 h3 h4 hlt
 obtain ⟨hil,hin⟩:=wH h4
 have hρ:∀ k,k<σ.length->∃ hk:k<σ.length,cu σ H.length k=σ[k]/\σ[k]<H.length:=fun k hk=>⟨hk,yM hk,hlt _ (List.getElem_mem hk)⟩
 have hbr:=TN (n:=H.length) hnd hlt
 have hinj:∀ k l,cu σ H.length k=cu σ H.length l->k=l:=fun k l e=>by
  have h1:=hbr k
  rw [e,hbr l] at h1
  cases h1
  rfl
 have hlen:=GH (H:=H.map (Ob.map (Lf.eG (lost σ fx)))) (os:=Hout.map (Ob.map (Lf.ren (cu σ H.length)))) hnd (fun s hs=>by rw [List.length_map];exact hlt s hs)
 have hHI:HI (fun k=>φ (cu σ H.length k)) (fun k=>β (cu σ H.length k)) M Hin w:=by
  refine ⟨h.hi.mem,fun k p hk =>?_,fun k g hk hg ad v e =>?_,fun k l g hk hl hg hg' =>?_,fun k g hk hg =>?_,fun k p hk=>h5 p (List.mem_of_getElem? hk)⟩
  ·obtain ⟨s,e1,e2⟩:=hin k p hk
   have hk':=(List.getElem?_eq_some_iff.1 e1).1
   have:cu σ H.length k=s:=by rw [yM hk'];exact (List.getElem?_eq_some_iff.1 e1).2
   rw [this]
   exact Ob.dO.1 (h.hi.ob s _ e2)
  ·obtain ⟨_,e1,e2⟩:=hρ k (by omega)
   exact h.hi.off _ g (by rw [e1];exact e2) hg ad v e
  ·obtain ⟨_,e1,e2⟩:=hρ k (by omega)
   obtain ⟨_,e3,e4⟩:=hρ l (by omega)
   exact hinj k l (h.hi.inj _ _ g (by rw [e1];exact e2) (by rw [e3];exact e4) hg hg')
  ·obtain ⟨_,e1,e2⟩:=hρ k (by omega)
   exact h.hi.lt _ g (by rw [e1];exact e2) hg
 have hblk:∀ g,blks Hin (fun k=>β (cu σ H.length k)) g->∃ i,i<H.length/\i∈σ/\β i g:=fun g ⟨k,hk,hg⟩=>by
  obtain ⟨hk',e1,e2⟩:=hρ k (by omega)
  exact ⟨_,by rw [e1];exact e2,by rw [e1];exact List.getElem_mem hk',hg⟩
 simp only [bQ] at h1
 split at h1
 ·rename_i x hcx
  split at h1
  ·rename_i f' xs' hx
   simp only [Option.some.injEq,Prod.mk.injEq] at h1
   obtain ⟨hg1,e1,e2⟩:=h1
   rw [e1,e2] at hx
   clear e1 e2
   have hrx:=h.ctx.t x hg1
   obtain ⟨us,hus,hl,hcap⟩:=zu hx hrx
   have hex:=zy (P:=P) (w:=w) ho hcx hus hspec.1
   have hAR:BP (fun k=>φ (cu σ H.length k)) M args (c.args.toList.map a.eval++us):=by
    have hL:args.length=c.args.toList.length+xs.length:=by have:=congrArg List.length h3;simpa using this.symm
    refine ⟨by simp [hl,hL],fun j hj hj' =>?_⟩
    have e1:((c.args.toList.map fun x=>(look T x).2)++xs.map (fun y=>AV.lf y))[j]? = some ((args[j]).map (Lf.ren (cu σ H.length))):=by
     rw [h3,List.getElem?_map,List.getElem?_eq_getElem hj]
     rfl
    refine AV.dO.1 ?_
    by_cases hlt':j<c.args.toList.length
    ·rw [List.getElem?_append_left (by simpa using hlt'),List.getElem?_map,List.getElem?_eq_getElem hlt'] at e1
     simp only [Option.map_some,Option.some.injEq] at e1
     rw [← e1,List.getElem_append_left (by simpa using hlt'),List.getElem_map]
     exact h.ctx.t _ (h2 _ (List.getElem_mem hlt'))
    ·have hj2:j-c.args.toList.length<xs.length:=by omega
     rw [List.getElem?_append_right (by simpa using Nat.not_lt.1 hlt'),List.getElem?_map] at e1
     simp only [List.length_map] at e1
     rw [List.getElem?_eq_getElem hj2] at e1
     simp only [Option.map_some,Option.some.injEq] at e1
     rw [← e1,List.getElem_append_right (by simpa using Nat.not_lt.1 hlt')]
     simp only [List.length_map]
     exact hcap _ hj2 (by omega)
   unfold Oper.wp
   rw [hex]
   simp only [Oper.upon]
   refine (hspec.2 _ _ M w _ hHI hAR).mono ?_
   rintro e w' ⟨u,φ',β',M',rfl,hm,hnew,hHI',hru,hrl,hHl,hfix,hβ,hkept⟩
   obtain ⟨g1,g2,g3⟩:=hlen (by rw [List.length_map,← hil];exact hHl)
   simp only [List.length_map] at g1 g2 g3
   let φn:Nat->Value:=fun i=>match back σ H.length i with | some k=>φ' k | none=>φ i
   let βn:Nat->Nat->Prop:=fun i=>match back σ H.length i with | some k=>β' k | none=>β i
   have hφr:(fun k=>φn (cu σ H.length k))=φ':=by funext k;show (match back σ H.length (cu σ H.length k) with | some k=>φ' k | none=>_)=_;rw [hbr k]
   have hφk:∀ k,φn (cu σ H.length k)=φ' k:=fun k=>congrFun hφr k
   have hβk:∀ k,βn (cu σ H.length k)=β' k:=fun k=>by show (match back σ H.length (cu σ H.length k) with | some k=>β' k | none=>_)=_;rw [hbr k]
   have hφo:∀ i,i<H.length->i ∉ σ->φn i=φ i:=fun i hi hn=>by show (match back σ H.length i with | some k=>φ' k | none=>_)=_;rw [FK hi hn]
   have hβo:∀ i,i<H.length->i ∉ σ->βn i=β i:=fun i hi hn=>by show (match back σ H.length i with | some k=>β' k | none=>_)=_;rw [FK hi hn]
   have hkeepφ:∀ i,i<H.length->i ∉ lost σ fx->φn i=φ i:=fun i hi hn=>by
    by_cases hs:i∈σ
    ·obtain ⟨k,hk,rfl⟩:=List.getElem_of_mem hs
     have hf:fx.getD k false=true:=by
      cases e:fx.getD k false with
      | true=>rfl
      | false =>
       have:=zL hk e
       rw [List.getD_eq_getElem?_getD,List.getElem?_eq_getElem hk] at this
       exact (hn this).elim
     have h1:=hfix k hf
     have h2:=hφk k
     rw [yM hk] at h1 h2
     rw [h2,h1]
    ·exact hφo i hi hs
   have hcase:∀ i,i<H.length+(Hout.length-σ.length)->H.length<=i\/i∈σ->∃ k,k<Hout.length/\cu σ H.length k=i:=fun i hi hc=>by
    rcases hc with hc | hc
    ·exact ⟨σ.length+(i-H.length),by omega,by rw [BJ (by omega)];omega⟩
    ·obtain ⟨k,hk,rfl⟩:=List.getElem_of_mem hc
     exact ⟨k,by omega,yM hk⟩
   have hρl:∀ k,k<Hout.length->cu σ H.length k<H.length+(Hout.length-σ.length):=fun k hk=>by
    rcases Nat.lt_or_ge k σ.length with h1 | h1
    ·obtain ⟨_,e1,e2⟩:=hρ k h1
     omega
    ·rw [BJ h1];omega
   have hR:=h.HY (w':=w') (M':=M') (Lf.eG (lost σ fx)) (fun i=>i∈σ) (φ':=φn) (β':=βn) (H':=plug (H.map (Ob.map (Lf.eG (lost σ fx)))) σ (Hout.map (Ob.map (Lf.ren (cu σ H.length)))))
    ⟨hkept.os,hkept.tape,hkept.output,hkept.size,fun k hk hn=>hkept.block k hk fun e=>hn (hblk k e)⟩ (by rw [g1];omega) hm
    (fun ad v e=>⟨hHI'.mem ad v e,by
     rcases hnew ad v e with h1 | h1 | h1
     ·exact .inl h1
     ·exact .inr (.inl h1)
     ·exact .inr (.inr (hblk _ h1))⟩)
    (fun i g hi hc hg ad v e=>by
     rw [g1] at hi
     obtain ⟨k,hk,rfl⟩:=hcase i hi hc
     rw [hβk] at hg
     exact hHI'.off k g hk hg ad v e)
    (fun y hy v hv=>by
     have hgen:∀ i,Nat.blt i H.length=true->List.contains (lost σ fx) i=false->φn i=φ i:=fun i hi hc=>hkeepφ i (by simpa using hi) (by simpa using hc)
     cases y with
     | und=>trivial
     | b x=>exact B.aX hm hv
     | ea c j o=>exact Lf.aX (φ:=φ) (x := .ea c j o) hm hv
     | ip xs o=>exact Lf.aX (φ:=φ) (x := .ip xs o) hm hv
     | own i =>
      simp only [Lf.eG]
      cases hc:List.contains (lost σ fx) i with
      | true=>trivial
      | false=>exact (show v=φ i from hv).trans (hgen i hy hc).symm
     | ptr i o =>
      simp only [Lf.eG]
      cases hc:List.contains (lost σ fx) i with
      | true=>trivial
      | false =>
       obtain ⟨g,e1,e2⟩:=hv
       exact ⟨g,(hgen i hy hc).trans e1,e2⟩
     | oa i wd j o =>
      simp only [Lf.eG]
      cases hc:List.contains (lost σ fx) i with
      | true=>trivial
      | false =>
       obtain ⟨g,n,cap,e1,e2⟩:=hv
       exact ⟨g,n,cap,(hgen i hy hc).trans e1,e2⟩)
    (fun y hy=>iF (by rw [g1];omega) (U7 hy))
    (fun i p hi hn=>by
     have hlt':=(List.getElem?_eq_some_iff.1 hi).1
     refine ⟨?_,hφo i hlt' hn,hβo i hlt' hn⟩
     rw [g2 i hlt' hn,List.getElem?_map,hi]
     rfl)
    (fun i p hi hc=>by
     have hlt':=(List.getElem?_eq_some_iff.1 hi).1
     rw [g1] at hlt'
     obtain ⟨k,hk,rfl⟩:=hcase i hlt' hc
     rw [g3 k hk,List.getElem?_map,List.getElem?_eq_getElem hk] at hi
     cases hi
     rw [hφk,hβk,g1]
     refine ⟨Ob.dO.2 ?_,Ob.map_lt (hHI'.wf k _ (List.getElem?_eq_getElem hk)) fun y hy=>IV hρl hy⟩
     rw [hφr]
     exact hHI'.ob k _ (List.getElem?_eq_getElem hk))
    (fun i g hi hc hg=>by
     rw [g1] at hi
     obtain ⟨k,hk,rfl⟩:=hcase i hi hc
     rw [hβk] at hg
     refine ⟨hHI'.lt k g hk hg,?_⟩
     rcases hβ k g hk hg with h1 | h1
     ·exact .inl h1
     ·exact .inr (hblk g h1))
    (fun i j g hi hj hc hc' hg hg'=>by
     rw [g1] at hi hj
     obtain ⟨k,hk,rfl⟩:=hcase i hi hc
     obtain ⟨l,hl',rfl⟩:=hcase j hj hc'
     rw [hβk] at hg hg'
     rw [hHI'.inj k l g hk hl' hg hg'])
    (fun i hi=>by
     refine hkeepφ i (Au h hi) fun hin' =>?_
     rw [hfx i hin'] at hi
     cases hi)
   refine hK _ _ M' _ _ (hR.put (d:=o.dst) hd (Mem.le_refl _) hR.new hR.hi hR.below ⟨fun _=>AV.dO.2 (by rw [hφr];exact hru),fun hf=>by cases hf⟩ ?_)
   show AV.lt _ _
   rw [g1]
   exact AV.map_lt hrl fun y hy=>IV hρl hy
  ·cases h1
 ·cases h1
end
def Lf.mf:Lf->Bool
 | .b (.val _)=>true
 | .b (.sl _)=>false
 | .b (.raw _)=>false
 | .b (.fn _ _)=>false
 | .b (.bm _ _)=>false
 | .ea _ _ _=>false
 | .ip _ _=>false
 | _=>true
def Ob.mf:Ob->Bool
 | .row _ c=>c.flat
 | .box cs=>cs.all Lf.mf
 | .hole _ _ _ _ x=>x.mf
 | .cut _ _ _ _ _=>false
 | _=>true
def AV.mf (x:AV):Bool:=x.leaves.all Lf.mf
theorem wC {φ:Nat->Value} {M M':Mem} {x:Lf} {u:Value} (h:x.mf=true) (k:x.rel φ M u):x.rel φ M' u:=by
 cases x with
 | b x=>cases x with
  | val v=>exact k
  | sl c=>cases h
  | raw c=>cases h
  | fn f c=>cases h
  | bm f c=>cases h
 | ea c j o=>cases h
 | ip xs o=>cases h
 | und=>trivial
 | own i=>exact k
 | ptr i o=>exact k
 | oa i w j o=>exact k
theorem AV.wC {φ:Nat->Value} {M M':Mem} {x:AV} {u:Value} (h:x.mf=true) (k:x.rel φ M u):x.rel φ M' u:=AV.oD k fun y hy _ hu=>Am.wC (List.all_eq_true.1 h y hy) hu
theorem Ob.wC {φ:Nat->Value} {S:Nat->Prop} {M M':Mem} {w:World} {o:Ob} {u:Value} (h:o.mf=true) (k:o.rel φ S M w u):o.rel φ S M' w u:=by
 cases o with
 | gone=>trivial
 | box cs =>
  obtain ⟨g,arr,t,h1,h2,⟨h3,h4⟩,h5⟩:=k
  exact ⟨g,arr,t,h1,h2,⟨h3,fun j hj hj'=>Am.wC (List.all_eq_true.1 h _ (List.getElem_mem hj)) (h4 j hj hj')⟩,h5⟩
 | row e c =>
  obtain ⟨vs,h1,h2,h3⟩:=k
  exact ⟨vs,h1,ni h h2,h3⟩
 | tree es c=>exact k
 | hole e es c j x=>exact mX.imp k fun v hv=>Am.wC h hv
 | cut e e2 c j x=>cases h
def qV (P:Program) (H:List Ob) (T:Tm) (c:Call) (r:AV) (Hout:List Ob):Prop:=∃ f xs vs,bQ T c=some (true,f,xs)/\(∀ x∈c.args.toList,(look T x).1=true)/\jF H T c xs=some vs/\bP P f vs [] [] r Hout/\r.mf=true/\Hout.all Ob.mf=true/\vs.all AV.free=true
section
variable {P:Program} {cf:Cfg} {b:Base} {N:Nat} {φ:Nat->Value} {β:Nat->Nat->Prop} {M:Mem} {T:Tm} {H:List Ob} {a:Act} {w w':World}
variable {ops:Array Oper} {o:Oper} {Q:Exit->Act->World->Prop} {rest:List Oper} {K:Act->World->Prop}
theorem CS (h:RA P cf b N φ β M ⟨T,H⟩ a w) (hd:o.dst.all (Nat.blt · N)=true) {c:Call} (ho:o.op = .call c) {r:AV} {Hout:List Ob} (hc:qV P H T c r Hout)
  (hK:∀ φ' β' a' w',RA P cf b N φ' β' M ⟨T.put o.dst (true,r.map (Lf.ren (cu [] H.length))),H++Hout.map (Ob.map (Lf.ren (cu [] H.length)))⟩ a' w'->K a' w'):o.wp P a w K Q:=by
 obtain ⟨f,xs,vs,h1,h3,h4,hspec,hrm,hom,hfree⟩:=hc
 simp only [bQ] at h1
 split at h1
 ·rename_i x hcx
  split at h1
  ·rename_i f' xs' hx
   simp only [Option.some.injEq,Prod.mk.injEq] at h1
   obtain ⟨hg1,e1,e2⟩:=h1
   rw [e1,e2] at hx
   clear e1 e2
   have hrx:=h.ctx.t x hg1
   obtain ⟨us,hus,hl,hcap⟩:=zu hx hrx
   have hex:=zy (P:=P) (w:=w) ho hcx hus hspec.1
   simp only [jF,Option.bind_eq_some_iff,Option.map_eq_some_iff] at h4
   obtain ⟨vs1,h7,ys,h8,rfl⟩:=h4
   have hAR:fO w.cell? (vs1++ys.map fun y => .tv (.one y)) (c.args.toList.map a.eval++us) :=
    vK h7 h8 (fun x y hx hy=>Af h.hi hy (h.ctx.t x (h3 x hx))) hl (fun j hj hj' y hy=>y9 h.hi hy (hcap j hj hj'))
   unfold Oper.wp
   rw [hex]
   simp only [Oper.upon]
   have hHI:HI lN (fun _ _=>False) w.cell? [] w:=⟨fun _ _ e=>e,fun i o hi=>by simp at hi,fun i g hi=>by simp at hi,fun i j g hi=>by simp at hi,fun i g hi=>by simp at hi,fun i o hi=>by simp at hi⟩
   refine (hspec.2 _ _ w.cell? w _ hHI hAR).mono ?_
   rintro e w' ⟨u,φ',β',M',rfl,hm,hnew,hHI',hru,hrl,hHl,hfix,hβ,hkept⟩
   have hb:Below w.heap.size w w':=hkept.EN fun g ⟨k,hk,_⟩=>by simp at hk
   have hβ':∀ k g,k<Hout.length->β' k g->w.heap.size<=g:=fun k g hk hg=>by
    rcases hβ k g hk hg with h1 | ⟨l,hl,_⟩
    ·exact h1
    ·simp at hl
   have hρ:∀ k,cu [] H.length k=H.length+k:=fun k=>by rw [BJ (Nat.zero_le _)];simp
   have hlen:(H++Hout.map (Ob.map (Lf.ren (cu [] H.length)))).length=H.length+Hout.length:=by simp
   let φn:Nat->Value:=fun i=>if i<H.length then φ i else φ' (i-H.length)
   let βn:Nat->Nat->Prop:=fun i=>if i<H.length then β i else β' (i-H.length)
   have hφo:∀ i,i<H.length->φn i=φ i:=fun i hi=>if_pos hi
   have hβo:∀ i,i<H.length->βn i=β i:=fun i hi=>if_pos hi
   have hφk:∀ k,φn (H.length+k)=φ' k:=fun k=>by show (if _ then _ else _)=_;rw [if_neg (by omega)];congr 1;omega
   have hβk:∀ k,βn (H.length+k)=β' k:=fun k=>by show (if _ then _ else _)=_;rw [if_neg (by omega)];congr 1;omega
   have hφr:(fun k=>φn (cu [] H.length k))=φ':=by funext k;rw [hρ];exact hφk k
   have hcase:∀ i,i<H.length+Hout.length->H.length<=i\/False->∃ k,k<Hout.length/\i=H.length+k:=fun i hi hc=>by
    rcases hc with hc | hc
    ·exact ⟨i-H.length,by omega,by omega⟩
    ·exact hc.elim
   have hρl:∀ k,k<Hout.length->cu [] H.length k<H.length+Hout.length:=fun k hk=>by rw [hρ];omega
   have hR:=h.change (w':=w') id (fun _=>False) (φ':=φn) (β':=βn) (H':=H++Hout.map (Ob.map (Lf.ren (cu [] H.length)))) ⟨hb.os,hb.tape,hb.output,hb.size,fun k hk _=>hb.block k hk⟩ (by rw [hlen];omega)
    (fun y hy v hv=>Lf.jK hy hφo hv) (fun y hy=>iF (by rw [hlen];omega) hy)
    (fun i p hi _=>by
     have hlt:=(List.getElem?_eq_some_iff.1 hi).1
     exact ⟨by rw [List.getElem?_append_left hlt,Ob.map_id];exact hi,hφo i hlt,hβo i hlt⟩)
    (fun i p hi hc=>by
     obtain ⟨k,hk,rfl⟩:=hcase i (by rw [← hlen];exact (List.getElem?_eq_some_iff.1 hi).1) hc
     rw [List.getElem?_append_right (by omega),show H.length+k-H.length=k by omega,List.getElem?_map,List.getElem?_eq_getElem hk] at hi
     cases hi
     rw [hφk,hβk,hlen]
     refine ⟨Ob.dO.2 ?_,Ob.map_lt (hHI'.wf k _ (List.getElem?_eq_getElem hk)) fun y hy=>IV hρl hy⟩
     rw [hφr]
     exact Ob.wC (List.all_eq_true.1 hom _ (List.getElem_mem hk)) (hHI'.ob k _ (List.getElem?_eq_getElem hk)))
    (fun i g hi hc hg=>by
     obtain ⟨k,hk,rfl⟩:=hcase i (by rw [← hlen];exact hi) hc
     rw [hβk] at hg
     exact ⟨hHI'.lt k g hk hg,.inl (hβ' k g hk hg)⟩)
    (fun i j g hi hj hc hc' hg hg'=>by
     obtain ⟨k,hk,rfl⟩:=hcase i (by rw [← hlen];exact hi) hc
     obtain ⟨l,hl',rfl⟩:=hcase j (by rw [← hlen];exact hj) hc'
     rw [hβk] at hg hg'
     rw [hHI'.inj k l g hk hl' hg hg'])
    (fun i hi=>hφo i (Au h hi))
   rw [Tm.map_id] at hR
   refine hK _ _ _ _ (hR.put (d:=o.dst) hd (Mem.le_refl _) hR.new hR.hi hR.below ⟨fun _=>AV.dO.2 (by rw [hφr];exact AV.wC hrm hru),fun hf=>by cases hf⟩ ?_)
   show AV.lt _ _
   rw [hlen]
   exact AV.map_lt hrl fun y hy=>IV hρl hy
  ·cases h1
 ·cases h1
end
end Am
end Go.Proofs.YtnblieajjclipaaGreat
