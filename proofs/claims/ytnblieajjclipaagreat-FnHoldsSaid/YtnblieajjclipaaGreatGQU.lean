/- 'p.f = append(append(append(p.f, p.f...), p.f...), p.f...)': four times the same, in whatever order. Conditions: those that each names. -/
import Derived.OrdersHeld
import Derived.Test.YtnblieajjclipaaGreatZGDR
set_option linter.all false
namespace Go.Proofs.YtnblieajjclipaaGreat
namespace Am
open Go Go.RowKit
section
variable {P:Program} {ops:Array Oper} {Q:Exit->Act->World->Prop} {S:World->Prop}
def oQ (P:Program) (ops:Array Oper) (Q:Exit->Act->World->Prop) (S:World->Prop) (z:Nat):Nat->Array Bool->Act->World->Prop
 | 0,listed,a,w=>Region.ready .any ops listed=[]/\Q .normal a w
 | fuel+1,listed,a,w=>(Region.ready .any ops listed=[]->Q .normal a w)/\∀ i∈Region.ready .any ops listed,wpOp P ops Q i (fun a' w'=>(S w'\/i=z)/\oQ P ops Q S z fuel (listed.setIfInBounds i true) a' w') a w
theorem EW {z:Nat}:∀ (fuel:Nat) (listed:Array Bool) (a:Act) (w:World),oQ P ops Q S z fuel listed a w->wpAny P .any ops Q fuel listed a w
 | 0,_,_,_,h=>h
 | fuel+1,_,_,_,h=>⟨h.1,fun i hi=>wpOp_mono (fun a' w' h'=>EW fuel _ a' w' h'.2) (h.2 i hi)⟩
theorem Jh {z i:Nat} {oi:Oper} {v:Value} (hi:ops[i]? = some oi) (hs:Region.noSelect ops=true) (hz:((vJ ops.toList []).getD z 0).testBit i=true) (hQ:∀ c a w,Q (.panic c) (a.put oi.dst v) w->Q (.panic c) a w):∀ (fuel:Nat) (listed:Array Bool) (a:Act) (w:World),shut ops listed ->
  (∀ j oj,ops[j]? = some oj->j≠i->listed.getD j true=false->(∀ e∈oj.after,Region.binds .any e=true->e.on≠i)->oi.apart ops oj=true) ->
  i∈Region.ready .any ops listed->YieldsIf P ops S oi v a->S w->oQ P ops Q S z fuel (listed.setIfInBounds i true) (a.put oi.dst v) w->oQ P ops Q S z (fuel+1) listed a w:=by
 have hunl:∀ {listed:Array Bool},listed.getD i true=false->listed.getD i false=true->False:=fun {listed} h1 h2=>by
  rw [Array.getD_eq_getD_getElem?] at h1 h2
  cases hx:listed[i]? with
  | none=>rw [hx] at h1;cases h1
  | some x=>rw [hx] at h1 h2;simp at h1 h2;rw [h1] at h2;cases h2
 intro fuel
 induction fuel with
 | zero =>
  intro listed a w _ _ hr hy hS H
  refine ⟨fun h=>(by rw [h] at hr;cases hr),fun j hj =>?_⟩
  by_cases he:j=i
  ·subst he
   exact hy.wpOp hi hS ⟨.inl hS,H⟩
  ·have h1:=ready_mono hj he
   rw [H.1] at h1
   cases h1
 | succ fuel ih =>
  intro listed a w hsh hfree hr hy hS H
  refine ⟨fun h=>(by rw [h] at hr;cases hr),fun j hj =>?_⟩
  by_cases he:j=i
  ·subst he
   exact hy.wpOp hi hS ⟨.inl hS,H⟩
  obtain ⟨hjun,oj,hoj,hall⟩:=mem_ready.1 hj
  have hi0:=(mem_ready.1 hr).1
  have hno:∀ e∈oj.after,Region.binds .any e=true->e.on≠i:=fun e he' hb heq=>hunl hi0 (by rw [← heq];exact hall e he' hb)
  have hjz:j≠z:=fun e=>by
   subst e
   exact hunl hi0 (Cb hsh j oj i hoj hall hz)
  have hput:=wpOp_putIf hoj (hfree j oj hoj he hjun hno) (fun cs b=>Region.noSelect_spec hs i oi cs b hi) (fun cs b=>Region.noSelect_spec hs j oj cs b hoj) hQ hy (H.2 j (ready_mono hj he))
  refine wpOp_mono (fun a' w' ⟨hy',hSw,hrest⟩ =>?_) hput
  have hS':S w':=hSw.resolve_right hjz
  refine ⟨.inl hS',ih _ a' w' (lF hj hsh) (fun k ok hk hki hun hnok =>?_) (ready_mono hr fun e=>he e.symm) hy' hS' ?_⟩
  ·refine hfree k ok hk hki ?_ hnok
   by_cases hjk:j=k
   ·subst hjk;exact hjun
   ·rwa [getD_set_ne true hjk] at hun
  ·rw [Array.setIfInBounds_comm _ _ he]
   exact hrest
theorem LZ {z:Nat} {listed:Array Bool} {a:Act} {w:World} (hr:Region.ready .any ops listed=[]) (h:Q .normal a w):∀ {fuel:Nat},oQ P ops Q S z fuel listed a w
 | 0=>⟨hr,h⟩
 | _+1=>⟨fun _=>h,by rw [hr];simp⟩
theorem Qn {k:Nat} {o:Oper} (ho:ops[k]? = some o) (hg:o.guard=none) {K:Act->World->Prop} {a:Act} {w:World} (h:o.wp P a w K Q):wpOp P ops Q k K a w:=by
 unfold wpOp
 rw [ho]
 simp only
 rw [if_pos (by simp [Region.wanted,hg])]
 exact .inl h
end
section
variable {P:Program} {cf:Cfg} {w:World}
theorem SH {o:Oper} {ρ:Operand->Value} {s f off t':Nat} {x:Operand} {fs:List (Nat×Nat)} {ad:Addr} (hcf:jP P cf) (ho:o.op = .fieldAddr s x f) (hs:cf.ty s = .struct fs) (hf:fs[f]? = some (off,t')) (e:ρ x = .pointer (some ad)):(execOp ρ o).run P w = .ok (.value (.pointer (some (ad.add off)))) w:=by
 have hty:=hcf.ty s
 rw [hs] at hty
 obtain ⟨F,h1,-,h2⟩:=hty
 obtain ⟨fd,hF,hoff,hft,j,hj,hz⟩:=h2 f off t' hf
 have hu:=run_underlying h1 w
 have hsz:(sizeOf fd.type).run P w = .ok j.size w:=by
  unfold sizeOf
  simp [run_typeInfo _ (hft ▸ hj)]
 simp [execOp,ho,Instr.fieldAt,hu,hF,e,Instr.sureAddr,fieldPlace,hsz,hz,hoff]
theorem Cc {t ty e:Nat} {i:TypeInfo} {z:Value} (ht:P.underlying t=some (.slice e)) (hi:P.info? e=some i) (hz:i.zero=some z) (hsize:i.size=1) (hzs:z.cells.size=1) {g1 cap1 m:Nat} {xs:List Value} (hown:w.ownsRow 0 e 1 (.slice (some ⟨g1,0,none⟩) m cap1) m xs)
  {g n cap:Nat} {vs:List Value} (hl:vs.length=n) (hrd:∀ j u,vs[j]? = some u->w.cell? ((⟨g,0,none⟩:Addr).add j)=some u) (h1:∀ u∈vs,u.oneCell'=true) (hpre:g1=g->∃ ys,xs=vs++ys) (hlive:g<w.heap.size) (hmn:m+n<=1048576) (hby:i.bytes<=4096) :
  ∃ g2 cap2 w',(Builtin.append_ #[t,t] ty #[.slice (some ⟨g1,0,none⟩) m cap1,.slice (some ⟨g,0,none⟩) n cap]).run P w = .ok (.slice (some ⟨g2,0,none⟩) (m+n) cap2) w'/\w'.ownsRow 0 e 1 (.slice (some ⟨g2,0,none⟩) (m+n) cap2) (m+n) (xs++vs)/\w.grownBy w' (some g1) /\
   (∀ j u,vs[j]? = some u->w'.cell? ((⟨g,0,none⟩:Addr).add j)=some u)/\(g2=g1\/g2=w.heap.size)/\(g2=g->∃ ys,xs++vs=vs++ys):=by
 have hmb:(m+n)*i.bytes<=1048576*4096:=Nat.mul_le_mul hmn hby
 obtain ⟨v',w',hr',h2,h3,_,h5⟩:=run_append_own_at (P:=P) w 0 t ty e i z 1 i.bytes ht hi hz hsize rfl hzs (by omega) (.slice (some ⟨g1,0,none⟩) m cap1) m xs hown ⟨g,0,none⟩ n cap vs (by rw [hl];omega) hrd h1 (by simp only [maxLen];omega) (by omega) (Nat.zero_le _)
 have hown0:=hown
 rcases hown0.2 with ⟨hx,_⟩ | ⟨g',cap',cur,hx,_,hg,hnc,hcm,hcs,htake⟩
 ·cases hx
 cases hx
 have hlx:xs.length=m:=by have:=hown0.1;omega
 by_cases hroom:m+n<=cap1
 ·have hfit:m*i.size+vs.length<=cur.size:=by rw [hsize,hl,hcs];omega
  have hr:=run_append_room (P:=P) w t ty e i ht hi g1 m cap1 cur hg ⟨g,0,none⟩ n cap vs (by rw [hl,hsize];omega) hrd h1 hroom hfit
  rw [hr] at hr'
  injection hr' with hv hw
  subst hv
  refine ⟨g1,cap1,w',by rw [hr,hw],h2,h3,fun j u hj =>?_,.inl rfl,fun e =>?_⟩
  ·by_cases hgg:g1=g
   ·subst hgg
    obtain ⟨ys,hys⟩:=hpre rfl
    refine h2.cells (g:=g1) rfl j u ?_
    rw [List.getElem?_append_left (by rw [hlx];have:=(List.getElem?_eq_some_iff.1 hj).1;rw [hys] at hlx;simp at hlx;omega),hys,List.getElem?_append_left (List.getElem?_eq_some_iff.1 hj).1]
    exact hj
   ·rw [fG,World.cell?_of_block (h3.block g hlive fun e=>hgg (by simpa [Value.ownBlock] using e.symm)),← fG]
    exact hrd j u hj
  ·obtain ⟨ys,hys⟩:=hpre e
   exact ⟨ys++vs,by rw [hys,List.append_assoc]⟩
 ·have holds:∀ j u,xs[j]? = some u->w.cell? ((⟨g1,0,none⟩:Addr).add j)=some u:=hown.cells (g:=g1) rfl
  have hr:=run_append_grow (P:=P) w t ty e i z ht hi hz ⟨g1,0,none⟩ m cap1 xs (by rw [hlx,hsize];omega) holds ⟨g,0,none⟩ n cap vs (by rw [hl,hsize];omega) hrd (by omega) (by omega) (growslice_fits (by omega) (by omega))
  rw [hr] at hr'
  injection hr' with hv hw
  subst hv
  refine ⟨w.heap.size,_,w',by rw [hr,hw],h2,h3,fun j u hj =>?_,.inr rfl,fun e =>?_⟩
  ·rw [← hw,fG,World.cell?_of_block (w:=w) (by exact heap_alloc_old w.drew _ hlive),← fG]
   exact hrd j u hj
  ·omega
end
def lst (ks:List Nat):Array Bool:=ks.foldl (fun a k=>a.setIfInBounds k true) (Array.replicate 13 false)
def tkB (ops:Array Oper) (ks:List Nat) (i:Nat):Bool:=Region.free .any ops (lst ks) i && (Region.ready .any ops (lst ks)).contains i && Nat.testBit ((vJ ops.toList []).getD 12 0) i
def YV (ops:Array Oper):Bool:=Nat.beq ops.size 13 && Region.noSelect ops && tkB ops [] 0 && tkB ops [0] 1 && tkB ops [0,1] 2 && tkB ops [0,1,2] 3 && tkB ops [0,1,2,3] 5 && tkB ops [0,1,2,3,5] 6 && tkB ops [0,1,2,3,5,6] 8 && tkB ops [0,1,2,3,5,6,8] 9 &&
 (Region.ready .any ops (lst [0,1,2,3,5,6,8,9]) == [4]) && (Region.ready .any ops (lst [0,1,2,3,5,6,8,9,4]) == [7]) && (Region.ready .any ops (lst [0,1,2,3,5,6,8,9,4,7]) == [10]) && tkB ops [0,1,2,3,5,6,8,9,4,7,10] 11 && (Region.ready .any ops (lst [0,1,2,3,5,6,8,9,4,7,10,11]) == [12]) && (Region.ready .any ops (lst [0,1,2,3,5,6,8,9,4,7,10,11,12]) == [])
section
variable {P:Program} {cf:Cfg} {b:Base} {N:Nat} {φ:Nat->Value} {β:Nat->Nat->Prop} {M:Mem} {T:Tm} {H:List Ob} {a:Act} {w:World}
theorem RA.und (h:RA P cf b N φ β M ⟨T,H⟩ a w) {d:Nat} (hd:d<N) (u:Value):RA P cf b N φ β M ⟨T.put (some d) (true,.und),H⟩ (a.put (some d) u) w :=
 h.put (by simpa using hd) (Mem.le_refl _) h.new h.hi h.below ⟨fun _=>trivial,fun hf=>by cases hf⟩ bM
theorem mJ {ops:Array Oper} {Q:Exit->Act->World->Prop} {S:World->Prop} {ks:List Nat} {i fuel:Nat} {oi:Oper} {v:Value} {d:Nat} (hi:ops[i]? = some oi) (hg:oi.guard=none) (hd:oi.dst=some d) (hs:Region.noSelect ops=true) (hQ:∀ c a w,¬ Q (.panic c) a w) (hk:tkB ops ks i=true) (hsh:shut ops (lst ks))
  (hrun:∀ w,S w->(execOp a.eval oi).run P w = .ok (.value v) w) (hS:S w) (h:shut ops (lst (ks++[i]))->oQ P ops Q S 12 fuel (lst (ks++[i])) (a.put (some d) v) w):oQ P ops Q S 12 (fuel+1) (lst ks) a w:=by
 simp only [tkB,Bool.and_eq_true] at hk
 have hr:i∈Region.ready .any ops (lst ks):=by simpa using hk.1.2
 have e:lst (ks++[i])=(lst ks).setIfInBounds i true:=by simp [lst]
 have h':=h (by rw [e];exact lF hr hsh)
 rw [e] at h'
 exact Jh hi hs hk.2 (fun c a w hq=>(hQ _ _ _ hq).elim) fuel (lst ks) a w hsh (Region.free_spec hi hk.1.1) hr (.inl ⟨by simp [Region.wanted,hg],hrun⟩) hS (by rw [hd];exact h')
theorem gY {a:Act} {d t:Nat} {u:Value} (hd:d<a.tmps.size):(a.put (some d) u).tmps.getD t undef=if d=t then u else a.tmps.getD t undef:=by
 rw [J6 (by simpa using hd)]
 simp
set_option maxHeartbeats 1000000 in
theorem TJ {id:Nat} {o0 o1 o2 o3 o4 o5 o6 o7 o8 o9 o10 o11 o12:Oper} {X:St} {Q:Exit->St->Prop} {ts t e tp d0 d1 d2 d3 d4 d5 d6 d7 d8 d9 d10 d11 bx i:Nat} {fs:List (Nat×Nat)} {cs:List Lf} {c c2 c3 c4:Cn} (hm:P.follows .mixedOrders=true)
  (q0:o0.dst=some d0/\o0.op = .fieldAddr ts (.tmp tp) 1/\o0.guard=none) (q1:o1.dst=some d1/\o1.op = .load t (.tmp d0)/\o1.guard=none) (q2:o2.dst=some d2/\o2.op = .fieldAddr ts (.tmp tp) 1/\o2.guard=none) (q3:o3.dst=some d3/\o3.op = .load t (.tmp d2)/\o3.guard=none) (q4:o4.dst=some d4/\o4.op = .call { callee := .builtin .append,args:=#[.tmp d1,.tmp d3],argTypes:=#[t,t] }/\o4.guard=none) (q5:o5.dst=some d5/\o5.op = .fieldAddr ts (.tmp tp) 1/\o5.guard=none) (q6:o6.dst=some d6/\o6.op = .load t (.tmp d5)/\o6.guard=none) (q7:o7.dst=some d7/\o7.op = .call { callee := .builtin .append,args:=#[.tmp d4,.tmp d6],argTypes:=#[t,t] }/\o7.guard=none) (q8:o8.dst=some d8/\o8.op = .fieldAddr ts (.tmp tp) 1/\o8.guard=none) (q9:o9.dst=some d9/\o9.op = .load t (.tmp d8)/\o9.guard=none) (q10:o10.dst=some d10/\o10.op = .call { callee := .builtin .append,args:=#[.tmp d7,.tmp d9],argTypes:=#[t,t] }/\o10.guard=none) (q11:o11.dst=some d11/\o11.op = .fieldAddr ts (.tmp tp) 1/\o11.guard=none) (q12:o12.dst=none/\o12.op = .store t (.tmp d11) (.tmp d10)/\o12.guard=none)
  (hB:YV [o0,o1,o2,o3,o4,o5,o6,o7,o8,o9,o10,o11,o12].toArray=true) (hnd:sN [tp,d0,d1,d2,d3,d4,d5,d6,d7,d8,d9,d10,d11]=true) (hlt:[d0,d1,d2,d3,d4,d5,d6,d7,d8,d9,d10,d11].all (Nat.blt · N)=true)
  (hs:cf.ty ts = .struct fs) (hf:fs[1]? = some (1,t)) (hte:cf.ty t = .slice e) (hszt:cf.sz t=1) (hsz:cf.sz e=1) (hby:cf.bytes e<=4096)
  (hX:X.T tp=(true,.lf (.ptr bx 0))) (hbx:X.H[bx]? = some (.box cs)) (hcs:cs[1]? = some (.own i)) (hi:X.H[i]? = some (.row e c)) (hne:bx≠i) (hfx:b.fx.getD i false=false) (hw:c.w=1) (h0:0<c.len) (hlen:c.len<=1000) (h2:c.app c=some c2) (h3:c2.app c=some c3) (h4:c3.app c=some c4)
  (h:Q .normal ⟨((((((((((((X.T.map (Lf.kill i)).put (some d0) (true,.und)).put (some d1) (true,.und)).put (some d2) (true,.und)).put (some d3) (true,.und)).put (some d5) (true,.und)).put (some d6) (true,.und)).put (some d8) (true,.und)).put (some d9) (true,.und)).put (some d4) (true,.und)).put (some d7) (true,.und)).put (some d10) (true,.lf (.own i))).put (some d11) (true,.lf (.ptr bx 1)),
   ((X.H.map (Ob.map (Lf.kill i))).set i (.row e c4)).set bx (.box (splice (cs.map (Lf.kill i)) 1 [.own i]))⟩):awp P cf b N (.region id [o0,o1,o2,o3,o4,o5,o6,o7,o8,o9,o10,o11,o12].toArray true) Q X:=fun a w ⟨φ,β,M,hR0⟩=>by
 have hnd:=je hnd
 have hnd2:[d11,d10,d9,d8,d7,d6,d5,d4,d3,d2,d1,d0,tp].Nodup:=List.pairwise_reverse.2 (List.Pairwise.imp (fun h e=>h e.symm) hnd)
 simp only [List.nodup_cons,List.mem_cons,not_or,List.not_mem_nil,not_false_eq_true,and_true,List.nodup_nil] at hnd hnd2
 simp only [List.all_cons,List.all_nil,Bool.and_true,Bool.and_eq_true,Nat.blt_eq] at hlt
 obtain ⟨l0,l1,l2,l3,l4,l5,l6,l7,l8,l9,l10,l11⟩:=hlt
 obtain ⟨s0,p0,g0⟩:=q0
 obtain ⟨s1,p1,g1⟩:=q1
 obtain ⟨s2,p2,g2⟩:=q2
 obtain ⟨s3,p3,g3⟩:=q3
 obtain ⟨s4,p4,g4⟩:=q4
 obtain ⟨s5,p5,g5⟩:=q5
 obtain ⟨s6,p6,g6⟩:=q6
 obtain ⟨s7,p7,g7⟩:=q7
 obtain ⟨s8,p8,g8⟩:=q8
 obtain ⟨s9,p9,g9⟩:=q9
 obtain ⟨s10,p10,g10⟩:=q10
 obtain ⟨s11,p11,g11⟩:=q11
 obtain ⟨s12,p12,g12⟩:=q12
 generalize hops:[o0,o1,o2,o3,o4,o5,o6,o7,o8,o9,o10,o11,o12].toArray=ops at hB
 have hat:∀ k,ops[k]? = [o0,o1,o2,o3,o4,o5,o6,o7,o8,o9,o10,o11,o12][k]? := fun k=>by rw [← hops,List.getElem?_toArray]
 simp only [YV,Bool.and_eq_true] at hB
 obtain ⟨⟨⟨⟨⟨⟨⟨⟨⟨⟨⟨⟨⟨⟨⟨hsize,hsel⟩,t0⟩,t1⟩,t2⟩,t3⟩,t5⟩,t6⟩,t8⟩,t9⟩,r4⟩,r7⟩,r10⟩,t11⟩,r12⟩,rz⟩:=hB
 have hsize:=Nat.eq_of_beq_eq_true hsize
 have r4:=eq_of_beq r4
 have r7:=eq_of_beq r7
 have r10:=eq_of_beq r10
 have r12:=eq_of_beq r12
 have rz:=eq_of_beq rz
 have hR:=hR0.draw
 generalize hwd:({ w with drawn:=w.drawn+1 }:World)=w1 at hR
 have hx:=(hR.t tp).1 (by rw [hX])
 rw [hX] at hx
 obtain ⟨g,e1,e2⟩:=hx
 obtain ⟨g',arr,tt,e3,hgh,⟨hl1,hl2⟩,hSb⟩:=hR.hi.ob bx _ hbx
 rw [e1] at e3
 cases e3
 obtain ⟨hc1,hc2⟩:=List.getElem?_eq_some_iff.1 hcs
 have hv0:arr.toList[1]'(by rw [hl1];exact hc1)=φ i:=by
  have:=hl2 1 hc1 (by rw [hl1];exact hc1)
  rw [hc2] at this
  exact this
 obtain ⟨vs,k1,k2,hSi⟩:=hR.hi.ob i _ hi
 rw [hw] at k1
 have hvl:vs.length=c.len:=by have:=k1.1;omega
 have hfi:∃ gi cap,φ i = .slice (some ⟨gi,0,none⟩) c.len cap:=by
  rcases k1.2 with ⟨_,h5⟩ | ⟨gi,cap,cur,h5,_⟩
  ·omega
  ·exact ⟨gi,cap,h5⟩
 obtain ⟨gi,cap,hfi⟩:=hfi
 rw [hfi] at k1 hv0
 have hbi:β i gi:=hSi gi (by rw [hfi];rfl)
 have hlv:gi<w1.heap.size:=hR.hi.lt i gi (List.getElem?_eq_some_iff.1 hi).1 hbi
 have hgg:g≠gi:=fun e=>hne (hR.hi.inj bx i g (List.getElem?_eq_some_iff.1 hbx).1 (List.getElem?_eq_some_iff.1 hi).1 hSb (by rw [e];exact hbi))
 have hgl:g<w1.heap.size:=hR.hi.lt bx g (List.getElem?_eq_some_iff.1 hbx).1 hSb
 have hS1:w1.cell? ⟨g,1,none⟩=some (.slice (some ⟨gi,0,none⟩) c.len cap):=by
  rw [mO hgh,List.getElem?_eq_getElem (by rw [hl1];exact hc1),hv0]
 have hrd:∀ j u,vs[j]? = some u->w1.cell? ((⟨gi,0,none⟩:Addr).add j)=some u:=k1.cells (g:=gi) rfl
 have hz:∀ (b:Act) (d:Nat) (u:Value),(b.put (some d) u).tmps.size=b.tmps.size:=fun b d u=>size_put
 have hsa:a.tmps.size=N:=hR.size
 have ev:∀ (b:Act) (x:Nat),b.eval (.tmp x)=b.tmps.getD x undef:=fun b x=>rfl
 have hcf:=hR.cf
 have hty:=hcf.ty t
 rw [hte] at hty
 have hbad:match cf.ty t with | .bad=>False | _=>True:=by rw [hte];trivial
 have hag:(cf.ty t).agg=false:=by rw [hte];rfl
 obtain ⟨inf,hinf,hisz,hibt,z,hz1,hz2,hz3⟩:=hcf.info e (by rw [hsz];omega)
 let S:World->Prop:=fun w=>w.cell? ⟨g,1,none⟩=some (.slice (some ⟨gi,0,none⟩) c.len cap)
 let PB:Value := .pointer (some ⟨g,1,none⟩)
 let V0:Value := .slice (some ⟨gi,0,none⟩) c.len cap
 have hPB:(⟨g,0,none⟩:Addr).add 1=⟨g,1,none⟩:=by rw [fG]
 have hld:∀ (b:Act) (o:Oper) (x:Nat) (w:World),S w->o.op = .load t (.tmp x)->b.tmps.getD x undef=PB->(execOp b.eval o).run P w = .ok (.value V0) w:=fun b o x w hS ho hx=>by
  have e:b.eval (.tmp x) = .pointer (some ⟨g,1,none⟩):=hx
  have:=I7 hcf hbad hag (w:=w) (ad:=⟨g,1,none⟩) hS
  simp only [execOp,ho,e,Sem.run_bind,this,Result.andThen_ok,Sem.run_pure]
  rfl
 have hfl:∀ (b:Act) (o:Oper) (w:World),o.op = .fieldAddr ts (.tmp tp) 1->b.tmps.getD tp undef = .pointer (some ⟨g,0,none⟩)->(execOp b.eval o).run P w = .ok (.value PB) w:=fun b o w ho hx=>by
  rw [SH (ρ:=b.eval) (x := .tmp tp) hcf ho hs hf hx,hPB]
 refine Code.wp_mono (Q:=fun e a w=>e = .normal/\∃ X',Q .normal X'/\R P cf b N X' a w) (fun e a' w' ⟨he,h'⟩=>by subst he;exact h') (wp_region_any hm (EW (S:=S) (z:=12) _ _ _ _ ?_))
 rw [hwd,hsize,show Array.replicate 13 false=lst [] from rfl]
 have hQ:∀ c a w,¬ ((fun (e:Exit) (a:Act) (w:World)=>e = .normal/\∃ X',Q .normal X'/\R P cf b N X' a w) (.panic c) a w):=fun c a w h=>by cases h.1
 have hsh:shut ops (lst []):=fun k o _ hk=>by
  have:(lst []).getD k false=false:=by
   rw [Array.getD_eq_getD_getElem?]
   simp only [lst,List.foldl_nil,Array.getElem?_replicate]
   split<;>rfl
  rw [this] at hk
  cases hk
 have z0:a.tmps.size=N:=hsa
 refine mJ (ks:=[]) (i:=0) (v:=PB) (d:=d0) (hat 0) g0 s0 hsel hQ t0 hsh (fun w hS =>?_) hS1 fun hsh =>?_
 ·exact hfl _ _ _ p0 e2
 refine mJ (ks:=[0]) (i:=1) (v:=V0) (d:=d1) (hat 1) g1 s1 hsel hQ t1 hsh (fun w hS =>?_) hS1 fun hsh =>?_
 ·refine hld _ _ _ _ hS p1 ?_
  simp only [gY,hz,hsa,l0,hnd,hnd2,if_true,if_false,e2]
 refine mJ (ks:=[0,1]) (i:=2) (v:=PB) (d:=d2) (hat 2) g2 s2 hsel hQ t2 hsh (fun w hS =>?_) hS1 fun hsh =>?_
 ·refine hfl _ _ _ p2 ?_
  simp only [gY,hz,hsa,l0,l1,hnd,hnd2,if_true,if_false,e2]
 refine mJ (ks:=[0,1,2]) (i:=3) (v:=V0) (d:=d3) (hat 3) g3 s3 hsel hQ t3 hsh (fun w hS =>?_) hS1 fun hsh =>?_
 ·refine hld _ _ _ _ hS p3 ?_
  simp only [gY,hz,hsa,l0,l1,l2,hnd,hnd2,if_true,if_false,e2]
 refine mJ (ks:=[0,1,2,3]) (i:=5) (v:=PB) (d:=d5) (hat 5) g5 s5 hsel hQ t5 hsh (fun w hS =>?_) hS1 fun hsh =>?_
 ·refine hfl _ _ _ p5 ?_
  simp only [gY,hz,hsa,l0,l1,l2,l3,hnd,hnd2,if_true,if_false,e2]
 refine mJ (ks:=[0,1,2,3,5]) (i:=6) (v:=V0) (d:=d6) (hat 6) g6 s6 hsel hQ t6 hsh (fun w hS =>?_) hS1 fun hsh =>?_
 ·refine hld _ _ _ _ hS p6 ?_
  simp only [gY,hz,hsa,l0,l1,l2,l3,l5,hnd,hnd2,if_true,if_false,e2]
 refine mJ (ks:=[0,1,2,3,5,6]) (i:=8) (v:=PB) (d:=d8) (hat 8) g8 s8 hsel hQ t8 hsh (fun w hS =>?_) hS1 fun hsh =>?_
 ·refine hfl _ _ _ p8 ?_
  simp only [gY,hz,hsa,l0,l1,l2,l3,l5,l6,hnd,hnd2,if_true,if_false,e2]
 refine mJ (ks:=[0,1,2,3,5,6,8]) (i:=9) (v:=V0) (d:=d9) (hat 9) g9 s9 hsel hQ t9 hsh (fun w hS =>?_) hS1 fun hsh =>?_
 ·refine hld _ _ _ _ hS p9 ?_
  simp only [gY,hz,hsa,l0,l1,l2,l3,l5,l6,l8,hnd,hnd2,if_true,if_false,e2]
 have hlit:∀ u∈vs,u.oneCell'=true:=fun u hu=>by
  have:=uy k2 u hu
  cases u<;>first | rfl | exact this
 obtain ⟨g2,cap2,w2,hr2,own2,gr2,rd2,bl2,pre2⟩:=Cc (P:=P) (t:=t) (ty:=o4.type) hty hinf hz1 (by rw [hisz,hsz]) (by rw [hz3,hsz]) k1 (g:=gi) (n:=c.len) (cap:=cap) hvl hrd hlit (fun _=>⟨[],by simp⟩) hlv (by omega) (by rw [hibt];exact hby)
 obtain ⟨g3',cap3,w3,hr3,own3,gr3,rd3,bl3,pre3⟩:=Cc (P:=P) (t:=t) (ty:=o7.type) hty hinf hz1 (by rw [hisz,hsz]) (by rw [hz3,hsz]) own2 (g:=gi) (n:=c.len) (cap:=cap) hvl rd2 hlit pre2 (Nat.lt_of_lt_of_le hlv gr2.size) (by omega) (by rw [hibt];exact hby)
 obtain ⟨g4',cap4,w4,hr4,own4,gr4,rd4,bl4,pre4⟩:=Cc (P:=P) (t:=t) (ty:=o10.type) hty hinf hz1 (by rw [hisz,hsz]) (by rw [hz3,hsz]) own3 (g:=gi) (n:=c.len) (cap:=cap) hvl rd3 hlit pre3 (Nat.lt_of_lt_of_le (Nat.lt_of_lt_of_le hlv gr2.size) gr3.size) (by omega) (by rw [hibt];exact hby)
 let U2:Value := .slice (some ⟨g2,0,none⟩) (c.len+c.len) cap2
 let U3:Value := .slice (some ⟨g3',0,none⟩) (c.len+c.len+c.len) cap3
 let U4:Value := .slice (some ⟨g4',0,none⟩) (c.len+c.len+c.len+c.len) cap4
 have kg2:w1.grownBy w2 (some gi):=gr2
 have kg3:w1.grownBy w3 (some gi):=⟨gr3.os.trans kg2.os,gr3.tape.trans kg2.tape,gr3.output.trans kg2.output,Nat.le_trans kg2.size gr3.size,fun k hk hn=>(gr3.block k (Nat.lt_of_lt_of_le hk kg2.size) fun e=>by
  rcases bl2 with b2 | b2
  ·exact hn (by rw [e,b2])
  ·have:k=g2:=by simpa using e
   omega).trans (kg2.block k hk hn)⟩
 have kb3:g3'=gi\/w1.heap.size<=g3':=by
  have:=kg2.size
  rcases bl3 with b3 | b3
  ·rcases bl2 with b2 | b2
   ·exact .inl (b3.trans b2)
   ·right;omega
  ·right;omega
 have kg4:w1.grownBy w4 (some gi):=⟨gr4.os.trans kg3.os,gr4.tape.trans kg3.tape,gr4.output.trans kg3.output,Nat.le_trans kg3.size gr4.size,fun k hk hn=>(gr4.block k (Nat.lt_of_lt_of_le hk kg3.size) fun e=>by
  have:k=g3':=by simpa using e
  rcases kb3 with b3 | b3
  ·exact hn (by rw [e,b3])
  ·omega).trans (kg3.block k hk hn)⟩
 have kb4:g4'=gi\/w1.heap.size<=g4':=by
  have:=kg3.size
  rcases bl4 with b4 | b4
  ·rcases kb3 with b3 | b3
   ·exact .inl (b4.trans b3)
   ·right;omega
  ·right;omega
 have kS:∀ w',w1.grownBy w' (some gi)->S w':=fun w' hg=>by
  show w'.cell? _=_
  rw [World.cell?_of_block (hg.block g hgl fun e=>hgg (by simpa using e))]
  exact hS1
 obtain ⟨a9,ha9⟩:∃ x,x=((((((((a.put (some d0) PB).put (some d1) V0).put (some d2) PB).put (some d3) V0).put (some d5) PB).put (some d6) V0).put (some d8) PB).put (some d9) V0):=⟨_,rfl⟩
 rw [← ha9]
 have za:a9.tmps.size=N:=by rw [ha9];simp only [hz,hsa]
 have vtp:a9.tmps.getD tp undef = .pointer (some ⟨g,0,none⟩):=by rw [ha9];simp only [ev,gY,hz,hsa,l0,l1,l2,l3,l4,l5,l6,l7,l8,l9,l10,l11,hnd,hnd2,if_true,if_false,e2]
 have vd1:a9.tmps.getD d1 undef=V0:=by rw [ha9];simp only [ev,gY,hz,hsa,l0,l1,l2,l3,l4,l5,l6,l7,l8,l9,l10,l11,hnd,hnd2,if_true,if_false,e2]
 have vd3:a9.tmps.getD d3 undef=V0:=by rw [ha9];simp only [ev,gY,hz,hsa,l0,l1,l2,l3,l4,l5,l6,l7,l8,l9,l10,l11,hnd,hnd2,if_true,if_false,e2]
 have vd6:a9.tmps.getD d6 undef=V0:=by rw [ha9];simp only [ev,gY,hz,hsa,l0,l1,l2,l3,l4,l5,l6,l7,l8,l9,l10,l11,hnd,hnd2,if_true,if_false,e2]
 have vd9:a9.tmps.getD d9 undef=V0:=by rw [ha9];simp only [ev,gY,hz,hsa,l0,l1,l2,l3,l4,l5,l6,l7,l8,l9,l10,l11,hnd,hnd2,if_true,if_false,e2]
 rw [show lst ([0,1,2,3,5,6,8]++[9])=lst [0,1,2,3,5,6,8,9] from rfl] at hsh ⊢
 have hsh:=lF (i:=4) (by rw [r4];simp) hsh
 have hsh:=lF (i:=7) (by rw [show (lst [0,1,2,3,5,6,8,9]).setIfInBounds 4 true=lst [0,1,2,3,5,6,8,9,4] from rfl,r7];simp) hsh
 have hsh:shut ops (lst [0,1,2,3,5,6,8,9,4,7,10]):=lF (i:=10) (by rw [show ((lst [0,1,2,3,5,6,8,9]).setIfInBounds 4 true).setIfInBounds 7 true=lst [0,1,2,3,5,6,8,9,4,7] from rfl,r10];simp) hsh
 refine ⟨fun h=>(by rw [r4] at h;cases h),fun k hk =>?_⟩
 rw [r4] at hk
 obtain rfl:k=4:=by simpa using hk
 refine Qn (hat 4) g4 ?_
 have x4:a9.eval (.tmp d1)=V0:=by simp only [ev,gY,hz,za,l4,l7,l10,hnd,hnd2,if_true,if_false,vd1,vd3,vd6,vd9]
 have y4:a9.eval (.tmp d3)=V0:=by simp only [ev,gY,hz,za,l4,l7,l10,hnd,hnd2,if_true,if_false,vd1,vd3,vd6,vd9]
 unfold Oper.wp execOp
 simp only [p4,resolve,invoke,builtin,Sem.run_bind,Sem.run_pure,Result.andThen_ok,List.map_toArray,List.map_cons,List.map_nil,x4,y4]
 rw [show (Builtin.append_ #[t,t] o4.type #[V0,V0]).run P _=_ from hr2]
 refine ⟨.inl (kS _ kg2),?_⟩
 rw [s4,show (lst [0,1,2,3,5,6,8,9]).setIfInBounds 4 true=lst [0,1,2,3,5,6,8,9,4] from rfl]
 show oQ _ _ _ _ _ _ _ (a9.put (some d4) U2) _
 refine ⟨fun h=>(by rw [r7] at h;cases h),fun k hk =>?_⟩
 rw [r7] at hk
 obtain rfl:k=7:=by simpa using hk
 refine Qn (hat 7) g7 ?_
 have x7:(a9.put (some d4) U2).eval (.tmp d4)=U2:=by simp only [ev,gY,hz,za,l4,l7,l10,hnd,hnd2,if_true,if_false,vd1,vd3,vd6,vd9]
 have y7:(a9.put (some d4) U2).eval (.tmp d6)=V0:=by simp only [ev,gY,hz,za,l4,l7,l10,hnd,hnd2,if_true,if_false,vd1,vd3,vd6,vd9]
 unfold Oper.wp execOp
 simp only [p7,resolve,invoke,builtin,Sem.run_bind,Sem.run_pure,Result.andThen_ok,List.map_toArray,List.map_cons,List.map_nil,x7,y7]
 rw [show (Builtin.append_ #[t,t] o7.type #[U2,V0]).run P _=_ from hr3]
 refine ⟨.inl (kS _ kg3),?_⟩
 rw [s7,show (lst [0,1,2,3,5,6,8,9,4]).setIfInBounds 7 true=lst [0,1,2,3,5,6,8,9,4,7] from rfl]
 show oQ _ _ _ _ _ _ _ ((a9.put (some d4) U2).put (some d7) U3) _
 refine ⟨fun h=>(by rw [r10] at h;cases h),fun k hk =>?_⟩
 rw [r10] at hk
 obtain rfl:k=10:=by simpa using hk
 refine Qn (hat 10) g10 ?_
 have x10:((a9.put (some d4) U2).put (some d7) U3).eval (.tmp d7)=U3:=by simp only [ev,gY,hz,za,l4,l7,l10,hnd,hnd2,if_true,if_false,vd1,vd3,vd6,vd9]
 have y10:((a9.put (some d4) U2).put (some d7) U3).eval (.tmp d9)=V0:=by simp only [ev,gY,hz,za,l4,l7,l10,hnd,hnd2,if_true,if_false,vd1,vd3,vd6,vd9]
 unfold Oper.wp execOp
 simp only [p10,resolve,invoke,builtin,Sem.run_bind,Sem.run_pure,Result.andThen_ok,List.map_toArray,List.map_cons,List.map_nil,x10,y10]
 rw [show (Builtin.append_ #[t,t] o10.type #[U3,V0]).run P _=_ from hr4]
 refine ⟨.inl (kS _ kg4),?_⟩
 rw [s10,show (lst [0,1,2,3,5,6,8,9,4,7]).setIfInBounds 10 true=lst [0,1,2,3,5,6,8,9,4,7,10] from rfl]
 show oQ _ _ _ _ _ _ _ (((a9.put (some d4) U2).put (some d7) U3).put (some d10) U4) _
 refine mJ (ks:=[0,1,2,3,5,6,8,9,4,7,10]) (i:=11) (v:=PB) (d:=d11) (hat 11) g11 s11 hsel hQ t11 hsh (fun w hS =>?_) (kS _ kg4) fun hsh =>?_
 ·refine hfl _ _ _ p11 ?_
  simp only [gY,hz,za,l4,l7,l10,l11,hnd,hnd2,if_true,if_false,vtp]
 rw [show lst ([0,1,2,3,5,6,8,9,4,7,10]++[11])=lst [0,1,2,3,5,6,8,9,4,7,10,11] from rfl]
 refine ⟨fun h=>(by rw [r12] at h;cases h),fun k hk =>?_⟩
 rw [r12] at hk
 obtain rfl:k=12:=by simpa using hk
 refine Qn (hat 12) g12 ?_
 have hil:=(List.getElem?_eq_some_iff.1 hi).1
 have hbl:=(List.getElem?_eq_some_iff.1 hbx).1
 obtain ⟨x1,x2,x3,_⟩:=jk h2
 obtain ⟨y1,y2,y3,_⟩:=jk h3
 obtain ⟨z1,z2,z3,_⟩:=jk h4
 have hT:=hR.turn (w':=w4) (i:=i) (o' := .row e c4) (v:=U4) (r:=some gi) hil hfx (fun g=>g=g4') kg4 (fun g e=>by cases e;exact hbi) (fun g e=>by
  subst e
  refine ⟨?_,?_⟩
  ·rcases own4.2 with ⟨hx,_⟩ | ⟨g',_,_,hx,_,hg,_⟩
   ·cases hx
   ·cases hx
    exact (Array.getElem?_eq_some_iff.1 hg).1
  ·rcases kb4 with b4 | b4
   ·exact .inl (by rw [b4];exact hbi)
   ·exact .inr b4) ⟨vs++vs++vs++vs,by
    have e1:c4.w=1:=by rw [z2,y2,x2,hw]
    have e2:c4.len=c.len+c.len+c.len+c.len:=by rw [z1,y1,x1]
    rw [e1,e2]
    exact own4,nU h4 (nU h3 (nU h2 k2 k2) k2) k2,fun g hg=>by
    have:g4'=g:=by simpa [blk,U4] using hg
    exact this.symm⟩ trivial
 have hlen':(iq i X (.row e c4)).H.length=X.H.length:=by simp [iq]
 have hP:=hT
 have hP:=hP.und l0 PB
 have hP:=hP.und l1 V0
 have hP:=hP.und l2 PB
 have hP:=hP.und l3 V0
 have hP:=hP.und l5 PB
 have hP:=hP.und l6 V0
 have hP:=hP.und l8 PB
 have hP:=hP.und l9 V0
 have hP:=hP.und l4 U2
 have hP:=hP.und l7 U3
 have hP:=hP.put (d:=some d10) (u:=U4) (g:=true) (v := .lf (.own i)) (by simpa using l10) (Mem.le_refl _) hP.new hP.hi hP.below ⟨fun _=>(upd_same φ i U4).symm,fun hf=>by cases hf⟩ (AV.dL.2 (by simp [Lf.ltB,iq];exact hil))
 have hP:=hP.put (d:=some d11) (u:=PB) (g:=true) (v := .lf (.ptr bx 1)) (by simpa using l11) (Mem.le_refl _) hP.new hP.hi hP.below ⟨fun _=>⟨g,(upd_ne φ U4 hne).trans e1,rfl⟩,fun hf=>by cases hf⟩ (AV.dL.2 (by simp [Lf.ltB,iq];exact hbl))
 have hbx':(iq i X (.row e c4)).H[bx]? = some (.box (cs.map (Lf.kill i))):=by
  show (((X.H.map (Ob.map (Lf.kill i))).set i (.row e c4)))[bx]? = _
  rw [List.getElem?_set,if_neg (fun e=>hne e.symm),List.getElem?_map,hbx]
  rfl
 have hi':(iq i X (.row e c4)).H[i]? = some (.row e c4):=by
  show (((X.H.map (Ob.map (Lf.kill i))).set i (.row e c4)))[i]? = _
  rw [List.getElem?_set,if_pos rfl,if_pos (by simpa using hil)]
 rw [ha9]
 have bq:∀ {x y:Nat},¬ x=y->Nat.beq x y=false:=fun h=>by rw [Bool.eq_false_iff];exact fun k=>h (Nat.eq_of_beq_eq_true k)
 refine mg hP s12 p12 (by rw [hszt];omega) (i:=bx) (off:=1) (cs:=cs.map (Lf.kill i)) (v := .lf (.own i)) (us:=[.own i]) ?_ hbx' ?_ rfl ?_ ?_ (by rw [hszt];rfl) (by simp;omega) ?_
 ·show (bif Nat.beq d11 d11 then _ else _)=_
  rw [Nat.beq_refl]
  rfl
 ·show (bif Nat.beq d10 d11 then _ else bif Nat.beq d10 d10 then _ else _)=_
  rw [bq (by simp [hnd]),Nat.beq_refl]
  rfl
 ·show (match ((iq i X (.row e c4)).H[i]?).bind Ob.cn with | some _=>true | none=>false)=true
  rw [hi']
  rfl
 ·show ((match ((iq i X (.row e c4)).H[i]?).bind Ob.cn with | some _=>true | none=>false) && true)=true
  rw [hi']
  rfl
 ·intro a' w' hR'
  exact ⟨.inr rfl,LZ (by rw [show (lst [0,1,2,3,5,6,8,9,4,7,10,11]).setIfInBounds 12 true=lst [0,1,2,3,5,6,8,9,4,7,10,11,12] from rfl];exact rz) ⟨rfl,_,h,_,_,_,hR'⟩⟩
theorem RA.UG (h:RA P cf b N φ β M ⟨T,H⟩ a w) {i e e2:Nat} {c:Cn} (hi:H[i]? = some (.tree [e,e2] c)):∃ β' M',RA P cf b N φ β' M' ⟨T,H.set i (.row e c)⟩ a w:=by
 have hil:=(List.getElem?_eq_some_iff.1 hi).1
 have ht:gX w (e::e2::[]) c (φ i) (β i):=h.hi.ob i _ hi
 obtain ⟨h0,vs,Ss,h1,h2,h3,h4,h5⟩:=ht
 let S':Nat->Prop:=fun g=>∃ j,Ss j g
 have hSb:∀ g,S' g->β i g:=fun g ⟨j,hj⟩=>h3 j g hj
 have hm:M.le (M.with S' w):=fun ad v e=>by
  rw [Mem.jO fun hs=>h.hi.off i ad.block hil (hSb _ hs) ad v e rfl]
  exact e
 have hone:∀ k,k<(H.set i (.row e c)).length->H.length<=k\/k=i->k=i:=fun k hk hc=>by
  rw [List.length_set] at hk
  rcases hc with hc | hc
  ·omega
  ·exact hc
 have:=h.HY (w':=w) (M':=M.with S' w) id (fun k=>k=i) (φ':=φ) (β':=dI β i (fun g=>blk (φ i)=some g)) (H':=H.set i (.row e c)) (Kept.refl _ _) (by simp) hm
  (fun ad v e=>by
   by_cases hs:S' ad.block
   ·rw [Mem.oJ hs] at e
    exact ⟨e,.inr (.inr ⟨i,hil,rfl,hSb _ hs⟩)⟩
   ·rw [Mem.jO hs] at e
    exact ⟨h.hi.mem ad v e,.inl e⟩)
  (fun k g hk hc hg ad v e=>by
   obtain rfl:=hone k hk hc
   rw [aS] at hg
   by_cases hs:S' ad.block
   ·obtain ⟨j,hj⟩:=hs
    intro e2
    exact (h2 g hg).2 j (by rw [← e2];exact hj)
   ·rw [Mem.jO hs] at e
    exact h.hi.off k g hil (h2 g hg).1 ad v e)
  (fun y _ u hu=>Lf.aX hm hu) (fun y hy=>by rw [List.length_set];exact hy)
  (fun k o hk hne=>by
   refine ⟨?_,rfl,bG _ _ hne⟩
   rw [List.getElem?_set,if_neg (fun e=>hne e.symm),Ob.map_id]
   exact hk)
  (fun k o hk hc=>by
   obtain rfl:=hone k (List.getElem?_eq_some_iff.1 hk).1 hc
   rw [List.getElem?_set,if_pos rfl,if_pos hil] at hk
   cases hk
   obtain ⟨r1,r2⟩:=Cn.Qy (M:=M.with S' w) h0 h1.1 fun j v hj hv=>(h5 j v hj hv).rel fun ad u hb hu=>by
    rw [Mem.oJ (show S' ad.block from ⟨j,hb⟩)]
    exact hu
   refine ⟨⟨vs,by rw [r2];exact h1,r1,fun g hg =>?_⟩,trivial⟩
   rw [aS]
   exact hg)
  (fun k g hk hc hg=>by
   obtain rfl:=hone k hk hc
   rw [aS] at hg
   exact ⟨h.hi.lt k g hil (h2 g hg).1,.inr ⟨k,hil,rfl,(h2 g hg).1⟩⟩)
  (fun k l g hk hl hc hc' _ _=>by rw [hone k hk hc,hone l hl hc'])
  (fun k _=>rfl)
 rw [Tm.map_id] at this
 exact ⟨_,_,this⟩
theorem TL {X:St} {Q:Exit->St->Prop} {k:Code} (i:Nat) {e e2:Nat} {c:Cn} (hi:X.H[i]? = some (.tree [e,e2] c)) (h:awp P cf b N k Q ⟨X.T,X.H.set i (.row e c)⟩):awp P cf b N k Q X:=fun a w ⟨φ,β,M,hR⟩=>by
 obtain ⟨β',M',hR'⟩:=hR.UG hi
 exact h a w ⟨φ,β',M',hR'⟩
end
end Am
end Go.Proofs.YtnblieajjclipaaGreat
namespace Go.Proofs.YtnblieajjclipaaGreat
open Go Go.RowKit Am
set_option maxHeartbeats 2000000 in
theorem Sr {c:Cu} (hc:bn 999999990000 c):∃ m s c',m.length<=5/\s.length<=16/\1<=s.length/\(∀ m0,bn m0 c->bn (m0+80) c')/\bP Tryz.prog 110 [.lf (.ptr 0 0)] [true] [eu c] (.tv (.agg [.b (.sl (.ii m)),.b (.sl (.ii s))])) [eu c']:=by
 have hn:=lY (xs:=nsP) hc (by simp)
 obtain ⟨n,hnn,hn1,hn2⟩:∃ n:Nat,amV nsP c=n/\1<=n/\n<=4:=by
  simp only [List.mem_cons,List.not_mem_nil,or_false] at hn
  rcases hn with h | h | h | h | h | h
  ·exact ⟨1,h,by omega,by omega⟩
  ·exact ⟨2,h,by omega,by omega⟩
  ·exact ⟨2,h,by omega,by omega⟩
  ·exact ⟨3,h,by omega,by omega⟩
  ·exact ⟨3,h,by omega,by omega⟩
  ·exact ⟨4,h,by omega,by omega⟩
 have hc1:=dZ (xs:=nsP) hc
 have d1:=dF (xs:=nsP) (c:=c) (hc.mono (by omega)) (by simp)
 rw [hnn] at d1
 have b1:∀ m0,bn m0 c->bn (m0+2) (aqC nsP c):=fun _ h=>dZ h
 generalize aqC nsP c=c1 at hc1 d1 b1
 have hd:=fP 4 hc1
 have hd2:=hd.2 (by omega)
 have hc2:=aV (n:=4) hc1
 have d2:=iy (n:=4) (c:=c1) (hc1.mono (by omega))
 have b2:∀ m0,bn m0 c->bn (m0+4) (pkC 4 c1):=fun m0 h=>(aV (b1 m0 h)).mono (by omega)
 generalize pkC 4 c1=c2 at hc2 d2 b2
 generalize pkV 4 c1=dd at hd hd2 d2
 have d3:=sS (n:=2) (c:=c2) (hc2.mono (by omega))
 have hm:=Yj (n:=n) (d:=1+dd) (c:=c2) (by omega)
 have hc3:=VD hc2
 have b3:∀ m0,bn m0 c->bn (m0+12) (mvC c2):=fun m0 h=>(VD (b2 m0 h)).mono (by omega)
 have hmt:pkV 2 c2=0->lnI ((Ed (pkC 2 c2)).take n) ((Ed (pkC 2 c2)).take n).length=mvP n (1+dd) c2/\pkC 3 (pkC 2 (pkC 2 (pkC 2 c2)))=mvC c2:=fun h=>⟨(if_pos h).symm,(if_pos h).symm⟩
 have hmf:¬ pkV 2 c2=0->rE n (1+dd) n=mvP n (1+dd) c2/\pkC 2 c2=mvC c2:=fun h=>⟨(if_neg h).symm,(if_neg h).symm⟩
 generalize mvP n (1+dd) c2=mv at hm hmt hmf
 have hr:=lY (xs:=ksP) hc3 (by simp)
 obtain ⟨R,hR,hR1,hR2⟩:∃ R:Nat,amV ksP (mvC c2)=R/\1<=R/\R<=4:=by
  simp only [List.mem_cons,List.not_mem_nil,or_false] at hr
  rcases hr with h | h | h | h | h
  ·exact ⟨1,h,by omega,by omega⟩
  ·exact ⟨2,h,by omega,by omega⟩
  ·exact ⟨2,h,by omega,by omega⟩
  ·exact ⟨3,h,by omega,by omega⟩
  ·exact ⟨4,h,by omega,by omega⟩
 have d4:=dF (xs:=ksP) (c:=mvC c2) (hc3.mono (by omega)) (by simp)
 rw [hR] at d4
 have hc4:=dZ (xs:=ksP) hc3
 have b4:∀ m0,bn m0 c->bn (m0+14) (aqC ksP (mvC c2)):=fun m0 h=>(dZ (b3 m0 h)).mono (by omega)
 have hrl0:=I4 n (aqC ksP (mvC c2)) R
 have hkb0:(2*(n:Int)+4)*(R:Int)<=48:=by
  have h1:(2*n+4)*R<=12*4:=Nat.mul_le_mul (by omega) (by omega)
  have h2:(((2*n+4)*R:Nat):Int)<=48:=by omega
  simpa using h2
 have hml0:=hm.1
 have hfin:∀ m0,bn m0 c->_:=fun m0 h=>(ZR (tag:=pkV 32 (pkC R (rsC n R (aqC ksP (mvC c2))))) (k:=(pkV R (rsC n R (aqC ksP (mvC c2)))).toNat) (n:=n) (m:=mv) (s:=rsV n R (aqC ksP (mvC c2))) (aV (n:=32) (aV (n:=R) (Om (n:=n) (b4 m0 h) R))) (by omega) (by omega) (by omega)).imp_right fun h=>h.imp_right fun h=>h.imp_right fun h=>h.mono (show _<=m0+80 by omega)
 refine ⟨(prF (pkV 32 (pkC R (rsC n R (aqC ksP (mvC c2))))) (pkV R (rsC n R (aqC ksP (mvC c2)))).toNat n mv (rsV n R (aqC ksP (mvC c2))) (pkC 32 (pkC R (rsC n R (aqC ksP (mvC c2)))))).1,(prF (pkV 32 (pkC R (rsC n R (aqC ksP (mvC c2))))) (pkV R (rsC n R (aqC ksP (mvC c2)))).toNat n mv (rsV n R (aqC ksP (mvC c2))) (pkC 32 (pkC R (rsC n R (aqC ksP (mvC c2)))))).2.1,(prF (pkV 32 (pkC R (rsC n R (aqC ksP (mvC c2))))) (pkV R (rsC n R (aqC ksP (mvC c2)))).toNat n mv (rsV n R (aqC ksP (mvC c2))) (pkC 32 (pkC R (rsC n R (aqC ksP (mvC c2)))))).2.2,?_,?_,?_,?_,?_⟩
 ·exact (hfin _ hc).1
 ·exact (hfin _ hc).2.1
 ·exact (hfin _ hc).2.2.1
 ·exact fun m0 h=>(hfin m0 h).2.2.2
 generalize aqC ksP (mvC c2)=c4 at hc4 b4 d4
 refine aZ Tryz.func110 rfl Tryz.ntmps110 aQ (fun _ _=>by kernel_rfl) rfl rfl rfl ?_
 intro M0 w0 S φ0
 rw [Tryz.results110]
 refine ah ?_
 (refine .inr (.inl (aJ [0] (d1) rfl rfl rfl rfl ⟨rfl,trivial⟩ rfl rfl rfl rfl ?_));refine amC ?_)
 refine ah ?_
 (refine .inr (.inl (aJ [0] (d2) rfl rfl rfl rfl ⟨rfl,trivial⟩ rfl rfl rfl rfl ?_));refine amC ?_)
 refine ah ?_
 (refine .inr (.inl (aJ [] (nZ n (1+dd) (by omega)) rfl rfl rfl rfl trivial rfl rfl rfl rfl ?_));refine amC ?_)
 refine ah ?_
 (refine .inr (.inl (aJ [0] (d3) rfl rfl rfl rfl ⟨rfl,trivial⟩ rfl rfl rfl rfl ?_));refine amC ?_)
 refine ah ?_
 refine Bf [] [0,2,3,4] [eu (mvC c2),.box [.b (.val (.slice none 0 0)),.b (.val (.slice none 0 0))],.gone,.box [.own 4],.tree [26,3] (.ii mv)] ?_ ?_
 ·refine aj amQ (fun h =>?_) (fun h =>?_)
  ·have h:=of_decide_eq_true h
   obtain ⟨e1,e2⟩:=hmt h
   have hp:=Wh (aV (n:=2) hc2)
   obtain ⟨q1,q2⟩:=fP 2 (aV (n:=2) (aV (n:=2) hc2))
   obtain ⟨q3,q4⟩:=fP 3 (aV (n:=2) (aV (n:=2) (aV (n:=2) hc2)))
   have q2:=q2 (by omega)
   have q4:=q4 (by omega)
   (refine dQ 2 rfl ?_;simp only [xz,simprocAttr])
   refine ah ?_
   (refine .inr (.inl (aJ [0] (iy (n:=2) (c:=pkC 2 c2) ((aV hc2).mono (by omega))) rfl rfl rfl rfl ⟨rfl,trivial⟩ rfl rfl rfl rfl ?_));refine amC ?_)
   refine ah ?_
   (refine .inr (.inl (aJ [0] (iy (n:=2) (c:=pkC 2 (pkC 2 c2)) ((aV (aV hc2)).mono (by omega))) rfl rfl rfl rfl ⟨rfl,trivial⟩ rfl rfl rfl rfl ?_));refine amC ?_)
   refine ah ?_
   (refine .inr (.inl (aJ [0] (iy (n:=3) (c:=pkC 2 (pkC 2 (pkC 2 c2))) ((aV (aV (aV hc2))).mono (by omega))) rfl rfl rfl rfl ⟨rfl,trivial⟩ rfl rfl rfl rfl ?_));refine amC ?_)
   (refine .inr (.inl (aJ [] (Vb ((Ed (pkC 2 c2)).take n) (by simp [Ed];omega) (fun x hx=>hp x (List.mem_of_mem_take hx))) rfl rfl rfl rfl trivial rfl rfl rfl rfl ?_));refine amC ?_)
   refine ah ?_
   rw [← e1,← e2]
   refine .inl ?_
   exact bW
  ·have h:=of_decide_eq_false h
   obtain ⟨e1,e2⟩:=hmf h
   rw [← e1,← e2]
   (refine XB 1 ?_;simp only [fH.eq_1,fH.eq_2,List.append_nil,List.cons_append,List.nil_append])
   (refine lH 4 2 rfl rfl (by decide) rfl rfl ?_;simp only [xm,simprocAttr])
   refine ah ?_
   refine .inl ?_
   exact bW
 simp only [xr,simprocAttr]
 refine ah ?_
 (refine .inr (.inl (aJ [0] (d4) rfl rfl rfl rfl ⟨rfl,trivial⟩ rfl rfl rfl rfl ?_));refine amC ?_)
 refine ah ?_
 (refine kJ 5 1 26 (.ii []) rfl rfl rfl (by first | trivial | (intro _ h;cases h)) ?_;simp only [xr,simprocAttr])
 (refine tV 6 3 [] rfl rfl rfl ?_;simp only [xu,simprocAttr])
 refine aA (α:=Nat) (fun k=>[(6,true,.int ((R:Int)-(k:Int)))]) [0,2,3,5] (fun k=>[eu (rsC n k c4),.box [.b (.val (.slice none 0 0)),.b (.val (.slice none 0 0))],.gone,.box [.own 4],.tree [26,3] (.ii mv),.box [.own 4,.own 6],.tree [26,3] (.ii (rsV n k c4))]) (fun k=>k<=R) (fun k=>R-k) 0 (by exact bW) (Nat.zero_le _) fun k hk =>?_
 have hkl:=I4 n c4 k
 have hkc:=Om (n:=n) hc4 k
 have hkb:(2*(n:Int)+4)*(k:Int)<=48:=by
  have h1:(2*n+4)*k<=12*4:=Nat.mul_le_mul (by omega) (by omega)
  have h2:(((2*n+4)*k:Nat):Int)<=48:=by omega
  simpa using h2
 simp only [xr,simprocAttr]
 refine ah ?_
 refine aj amQ (fun hc7 =>?_) (fun hc7 =>?_)
 ·have hc7:=of_decide_eq_true hc7
  have hk':k<R:=by omega
  generalize hr0:rsC n k c4=r at hkc
  have hrc:bn 999999990070 r:=hkc.mono (by omega)
  refine ah ?_
  refine aA (α:=Nat) (fun j=>[(8,true,.int j)]) [0,2,3,5,6,7] (fun j=>[eu (vI csP j r),.box [.b (.val (.slice none 0 0)),.b (.val (.slice none 0 0))],.gone,.box [.own 4],.tree [26,3] (.ii mv),.box [.own 4,.own 6],.tree [26,3] (.ii (rsV n k c4)),.row 3 (.ints (amL csP j r))]) (fun j=>j<=n) (fun j=>n-j) 0 (by exact bW) (Nat.zero_le _) fun j hj =>?_
  have hjl:=wZ csP r j
  have hjc:=qm (xs:=csP) hrc j
  simp only [xr,simprocAttr]
  refine ah ?_
  refine aj amQ (fun hc8 =>?_) (fun hc8 =>?_)
  ·have hc8:=of_decide_eq_true hc8
   refine ah ?_
   (refine .inr (.inl (aJ [0] (dF (xs:=csP) (hjc.mono (by omega)) (by simp)) rfl rfl rfl rfl ⟨rfl,trivial⟩ rfl rfl rfl rfl ?_));refine amC ?_)
   refine ah ?_
   refine ⟨j+1,by omega,by omega,.inr ⟨8,Nat.le_of_ble_eq_true rfl,aT ?_ rfl rfl rfl⟩⟩
   exact dw (rfl)
  ·have hc8:=of_decide_eq_false hc8
   obtain rfl:j=n:=by omega
   refine ah ?_
   ((try refine Or.inl ?_);refine ⟨_,(Gm _ (by intro e;rw [e] at hjl;simp at hjl;omega)),.inl rfl,?_⟩;refine amC ?_)
   have fin:∀ v c',rwV j r=v->rwC j r=c'->rsV j (k+1) c4=rsV j k c4++[v]/\rsC j (k+1) c4=c':=fun v c' h1 h2=>by subst h1 h2;simp [rsV,rsC,hr0]
   cases hN:decide (dn (amL csP j r) ((amL csP j r).length-1)<0)
   ·have eD:rwD j r=vI csP j r:=if_neg (by rw [show rwN j r=_ from hN];simp)
    have hrD:=hjc
    have eB:rwB j r = !iY j (amL csP j r):=by unfold rwB;rw [show rwN j r=_ from hN];rfl
    (refine .inr (.inr (xH (.bool false) (by first | rfl | (simp only [xr,simprocAttr];done)) rfl ?_));refine amC ?_)
    ((try refine Or.inl ?_);refine ⟨_,(su j _ (by omega)),.inl rfl,?_⟩;refine amC ?_)
    refine aj amQ (fun hB =>?_) (fun hB =>?_)
    ·obtain ⟨f1,f2⟩:=fin _ _ (if_pos (eB.trans hB)) (if_pos (eB.trans hB))
     rw [eD] at f1 f2
     obtain ⟨q1,q2⟩:=fP j hrD
     have q2:=q2 (by omega)
     refine ah ?_
     (refine .inr (.inl (aJ [0] (iy (n:=j) (hrD.mono (by omega))) rfl rfl rfl rfl ⟨rfl,trivial⟩ rfl rfl rfl rfl ?_));refine amC ?_)
     refine ah ?_
     refine ⟨k+1,by omega,by omega,.inr ⟨7,Nat.le_of_ble_eq_true rfl,aT ?_ rfl rfl rfl⟩⟩
     exact dw (by rw [f1,f2];rfl)
    ·obtain ⟨f1,f2⟩:=fin _ _ (if_neg (by rw [eB,hB];simp)) (if_neg (by rw [eB,hB];simp))
     rw [eD] at f2
     refine ah ?_
     refine ⟨k+1,by omega,by omega,.inr ⟨7,Nat.le_of_ble_eq_true rfl,aT ?_ rfl rfl rfl⟩⟩
     exact dw (by rw [f1,f2];rfl)
   ·have eD:rwD j r=pkC 3 (vI csP j r):=if_pos hN
    have hrD:=aV (n:=3) hjc
    have eB:rwB j r=(bif decide (pkV 3 (vI csP j r)=0) then true else !iY j (amL csP j r)):=by unfold rwB;rw [show rwN j r=_ from hN,Bool.true_and];cases decide (pkV 3 (vI csP j r)=0)<;>rfl
    (refine .inr (.inr (jG [0] (sS (n:=3) (hjc.mono (by omega))) (by first | rfl | (simp only [xr,simprocAttr];done)) rfl rfl rfl ⟨rfl,trivial⟩ rfl rfl rfl rfl ?_));refine amC ?_)
    ((try refine Or.inl ?_);refine ⟨_,(fun h=>su j _ (by omega)),.inl rfl,?_⟩;refine amC ?_)
    refine aj amQ (fun hB =>?_) (fun hB =>?_)
    ·obtain ⟨f1,f2⟩:=fin _ _ (if_pos (eB.trans hB)) (if_pos (eB.trans hB))
     rw [eD] at f1 f2
     obtain ⟨q1,q2⟩:=fP j hrD
     have q2:=q2 (by omega)
     refine ah ?_
     (refine .inr (.inl (aJ [0] (iy (n:=j) (hrD.mono (by omega))) rfl rfl rfl rfl ⟨rfl,trivial⟩ rfl rfl rfl rfl ?_));refine amC ?_)
     refine ah ?_
     refine ⟨k+1,by omega,by omega,.inr ⟨7,Nat.le_of_ble_eq_true rfl,aT ?_ rfl rfl rfl⟩⟩
     exact dw (by rw [f1,f2];rfl)
    ·obtain ⟨f1,f2⟩:=fin _ _ (if_neg (by rw [eB,hB];simp)) (if_neg (by rw [eB,hB];simp))
     rw [eD] at f2
     refine ah ?_
     refine ⟨k+1,by omega,by omega,.inr ⟨7,Nat.le_of_ble_eq_true rfl,aT ?_ rfl rfl rfl⟩⟩
     exact dw (by rw [f1,f2];rfl)
 ·have hc7:=of_decide_eq_false hc7
  obtain rfl:k=R:=by omega
  have hrow:=QB n c4 k
  have hk0:bn 999999990070 (rsC n k c4):=hkc.mono (by omega)
  obtain ⟨q1,q2⟩:=fP k hk0
  have q2:=q2 (by omega)
  have hk1:=aV (n:=k) hk0
  have hk2:=aV (n:=32) hk1
  obtain ⟨q3,q4⟩:=fP 32 hk1
  have q4:=q4 (by omega)
  refine ah ?_
  rw [hkl]
  (refine .inr (.inl (aJ [0] (iy (n:=k) (c:=rsC n k c4) (hk0.mono (by omega))) rfl rfl rfl rfl ⟨rfl,trivial⟩ rfl rfl rfl rfl ?_));refine amC ?_)
  refine ah ?_
  (refine .inr (.inl (aJ [0] (iy (n:=32) (c:=pkC k (rsC n k c4)) (hk1.mono (by omega))) rfl rfl rfl rfl ⟨rfl,trivial⟩ rfl rfl rfl rfl ?_));refine amC ?_)
  refine ah ?_
  generalize rsV n k c4=s at hkl hrow
  generalize pkC 32 (pkC k (rsC n k c4))=cg at hk2
  generalize pkV 32 (pkC k (rsC n k c4))=tag at q3 q4
  generalize pkV k (rsC n k c4)=kz at q1 q2
  obtain ⟨kk,rfl⟩:∃ kk:Nat,kz=kk:=⟨kz.toNat,by omega⟩
  have hkk:kk<s.length:=by omega
  have hrl:(s.getD kk []).length=n:=by
   rw [List.getD_eq_getElem?_getD,List.getElem?_eq_getElem hkk]
   exact hrow _ (List.getElem_mem hkk)
  have hml:=hm.1
  have hm0:=Ot hm (i:=0) (by omega)
  refine aj amQ (fun t0 =>?_) (fun t0 =>?_)
  ·have t0:=of_decide_eq_true t0
   have e0:prF tag kk n mv s cg=(mv,s.set kk ((s.getD kk []).set 0 (amV [-2,20,21] cg)),aqC [-2,20,21] cg):=if_pos t0
   simp only [Int.toNat_natCast,e0]
   refine ah ?_
   (refine kH 6 (kk) rfl amT ?_;simp only [xr,simprocAttr])
   (refine amB ?_;refine gq 0 [(7,[0]),(9,[7])] [0,7] [(7,[7]),(8,[0]),(9,[0])] ?_;refine xw ?_)
   ((first | refine .inr (.inr ⟨0,_,_,dh (dF (xs:=[-2,20,21]) (c:=cg) (hk2.mono (by omega)) (by simp)) rfl rfl rfl rfl rfl rfl rfl,?_⟩) | refine .inr ⟨0,_,_,dh (dF (xs:=[-2,20,21]) (c:=cg) (hk2.mono (by omega)) (by simp)) rfl rfl rfl rfl rfl rfl rfl,?_⟩ | refine ⟨0,_,_,dh (dF (xs:=[-2,20,21]) (c:=cg) (hk2.mono (by omega)) (by simp)) rfl rfl rfl rfl rfl rfl rfl,?_⟩);refine zk ?_)
   (refine tX 6 rfl (by decide) rfl rfl amT rfl ?_;simp only [xu,simprocAttr])
   (refine dQ 4 rfl ?_;simp only [xz,simprocAttr])
   (refine dQ 6 rfl ?_;simp only [xz,simprocAttr])
   refine ah ?_
   (simp only [aC,aH];refine bf [0] rfl ⟨rfl,trivial⟩ rfl rfl rfl rfl ⟨amK,rfl⟩ ?_;try rfl)
  have t0:=of_decide_eq_false t0
  refine ah ?_
  refine aj amQ (fun t1 =>?_) (fun t1 =>?_)
  ·have t1:=of_decide_eq_true t1
   have e0:prF tag kk n mv s cg=(mv,s.set kk (s.getD kk []++[0]),cg):=(if_neg t0).trans (if_pos t1)
   simp only [Int.toNat_natCast,e0]
   refine ah ?_
   (refine kH 6 (kk) rfl amT ?_;simp only [xr,simprocAttr])
   (refine amB ?_;refine gq 1 [(9,[8,7]),(11,[6,8])] [8,7] [(9,[]),(11,[])] ?_;refine xw ?_)
   (refine dQ 4 rfl ?_;simp only [xz,simprocAttr])
   (refine dQ 6 rfl ?_;simp only [xz,simprocAttr])
   refine ah ?_
   (simp only [aC,aH];refine bf [0] rfl ⟨rfl,trivial⟩ rfl rfl rfl rfl ⟨amK,rfl⟩ ?_;try rfl)
  have t1:=of_decide_eq_false t1
  refine ah ?_
  refine aj amQ (fun t2 =>?_) (fun t2 =>?_)
  ·have t2:=of_decide_eq_true t2
   have e0:prF tag kk n mv s cg=(mv,s.set kk (stN (s.getD kk []) n),cg):=(if_neg t0).trans ((if_neg t1).trans (if_pos t2))
   simp only [Int.toNat_natCast,e0]
   refine ah ?_
   refine aA (α:=Nat) (fun j=>[(10,true,.int j)]) [0,2,3,5,9] (fun j=>[eu cg,.box [.b (.val (.slice none 0 0)),.b (.val (.slice none 0 0))],.gone,.box [.own 4],.tree [26,3] (.ii mv),.box [.own 4,.own 6],.tree [26,3] (.ii (s.set kk (stN (s.getD kk []) j)))]) (fun j=>j<=n) (fun j=>n-j) 0 (by exact dw (by rw [show stN (s.getD kk []) 0=s[kk] by (show s.getD kk []=_;rw [List.getD_eq_getElem?_getD,List.getElem?_eq_getElem hkk];rfl),List.set_getElem_self])) (Nat.zero_le _) fun j hj =>?_
   have hsl:=QJ (s.getD kk []) j
   have hg:(s.set kk (stN (s.getD kk []) j)).getD kk []=stN (s.getD kk []) j:=by
    rw [List.getD_eq_getElem?_getD,List.getElem?_set,if_pos rfl,if_pos hkk]
    rfl
   have hl6:(s.set kk (stN (s.getD kk []) j)).length=s.length:=List.length_set
   simp only [xr,simprocAttr]
   refine ah ?_
   refine aj amQ (fun t3 =>?_) (fun t3 =>?_)
   ·have t3:=of_decide_eq_true t3
    (refine kH 6 (kk) rfl amT ?_;simp only [xr,simprocAttr])
    rw [hg]
    refine L9 ?_
    (refine tX 6 rfl (by decide) rfl rfl amT rfl ?_;simp only [xu,simprocAttr])
    refine ah ?_
    refine ⟨j+1,by omega,by omega,.inr ⟨7,Nat.le_of_ble_eq_true rfl,aT ?_ rfl rfl rfl⟩⟩
    exact dw (by rw [List.set_set];rfl)
   ·have t3:=of_decide_eq_false t3
    obtain rfl:j=n:=by omega
    (refine dQ 4 rfl ?_;simp only [xz,simprocAttr])
    (refine dQ 6 rfl ?_;simp only [xz,simprocAttr])
    refine ah ?_
    (simp only [aC,aH];refine bf [0] rfl ⟨rfl,trivial⟩ rfl rfl rfl rfl ⟨amK,rfl⟩ ?_;try rfl)
  have t2:=of_decide_eq_false t2
  refine ah ?_
  refine aj amQ (fun t3 =>?_) (fun t3 =>?_)
  ·have t3:=of_decide_eq_true t3
   have e0:prF tag kk n mv s cg=(mv.set 0 ((mv.getD 0 []).set (n-1) (amV [0,99,-1] cg)),s,aqC [0,99,-1] cg):=(if_neg t0).trans ((if_neg t1).trans ((if_neg t2).trans (if_pos t3)))
   simp only [Int.toNat_natCast,e0]
   refine ah ?_
   (refine kH 4 (0) rfl amT ?_;simp only [xr,simprocAttr])
   (refine amB ?_;refine gq 0 [(8,[0]),(10,[7])] [0,7] [(8,[7]),(9,[0]),(10,[0])] ?_;refine xw ?_)
   ((first | refine .inr (.inr ⟨0,_,_,dh (dF (xs:=[0,99,-1]) (c:=cg) (hk2.mono (by omega)) (by simp)) rfl rfl rfl rfl rfl rfl rfl,?_⟩) | refine .inr ⟨0,_,_,dh (dF (xs:=[0,99,-1]) (c:=cg) (hk2.mono (by omega)) (by simp)) rfl rfl rfl rfl rfl rfl rfl,?_⟩ | refine ⟨0,_,_,dh (dF (xs:=[0,99,-1]) (c:=cg) (hk2.mono (by omega)) (by simp)) rfl rfl rfl rfl rfl rfl rfl,?_⟩);refine zk ?_)
   (refine tX 4 rfl (by decide) rfl rfl amT rfl ?_;simp only [xu,simprocAttr])
   (refine dQ 4 rfl ?_;simp only [xz,simprocAttr])
   (refine dQ 6 rfl ?_;simp only [xz,simprocAttr])
   refine ah ?_
   (simp only [aC,aH];refine bf [0] rfl ⟨rfl,trivial⟩ rfl rfl rfl rfl ⟨amK,rfl⟩ ?_;try rfl)
   rw [show ((n:Int)-1).toNat=n-1 by omega]
   rfl
  have t3:=of_decide_eq_false t3
  refine ah ?_
  refine aj amQ (fun t4 =>?_) (fun t4 =>?_)
  ·have t4:=of_decide_eq_true t4
   have e0:prF tag kk n mv s cg=(mv,s++s++s++s,cg):=(if_neg t0).trans ((if_neg t1).trans ((if_neg t2).trans ((if_neg t3).trans (if_pos t4))))
   simp only [Int.toNat_natCast,e0]
   refine ah ?_
   (refine TL 6 rfl ?_;simp only [List.set_cons_succ,List.set_cons_zero])
   refine TJ (by kernel_rfl) ⟨rfl,rfl,rfl⟩ ⟨rfl,rfl,rfl⟩ ⟨rfl,rfl,rfl⟩ ⟨rfl,rfl,rfl⟩ ⟨rfl,rfl,rfl⟩ ⟨rfl,rfl,rfl⟩ ⟨rfl,rfl,rfl⟩ ⟨rfl,rfl,rfl⟩ ⟨rfl,rfl,rfl⟩ ⟨rfl,rfl,rfl⟩ ⟨rfl,rfl,rfl⟩ ⟨rfl,rfl,rfl⟩ ⟨rfl,rfl,rfl⟩ (by kernel_rfl) rfl rfl rfl rfl rfl rfl rfl (by decide) rfl rfl rfl rfl (by decide) rfl rfl (by show 0<s.length;omega) (by show s.length<=1000;omega) rfl rfl rfl ?_
   simp only [xr,simprocAttr]
   trace_state
   (refine dQ 4 rfl ?_;simp only [xz,simprocAttr])
   (refine aK 6 rfl ?_;simp only [xz,simprocAttr])
   refine ah ?_
   (simp only [aC,aH];refine bf [0] rfl ⟨rfl,trivial⟩ rfl rfl rfl rfl ⟨amK,rfl⟩ ?_;try rfl)
  have t4:=of_decide_eq_false t4
  refine ah ?_
  refine aj amQ (fun t5 =>?_) (fun t5 =>?_)
  ·have t5:=of_decide_eq_true t5
   have e0:prF tag kk n mv s cg=(rE 5 1 5,s,cg):=(if_neg t0).trans ((if_neg t1).trans ((if_neg t2).trans ((if_neg t3).trans ((if_neg t4).trans (if_pos t5)))))
   simp only [Int.toNat_natCast,e0]
   refine ah ?_
   (refine .inr (.inl (aJ [] (nZ 5 1 (by omega)) rfl rfl rfl rfl trivial rfl rfl rfl rfl ?_));refine amC ?_)
   (refine dQ 7 rfl ?_;simp only [xz,simprocAttr])
   (refine dQ 6 rfl ?_;simp only [xz,simprocAttr])
   refine ah ?_
   (simp only [aC,aH];refine bf [0] rfl ⟨rfl,trivial⟩ rfl rfl rfl rfl ⟨amK,rfl⟩ ?_;try rfl)
  have t5:=of_decide_eq_false t5
  have e0:prF tag kk n mv s cg=(mv,s,cg):=(if_neg t0).trans ((if_neg t1).trans ((if_neg t2).trans ((if_neg t3).trans ((if_neg t4).trans (if_neg t5)))))
  simp only [Int.toNat_natCast,e0]
  (refine dQ 4 rfl ?_;simp only [xz,simprocAttr])
  (refine dQ 6 rfl ?_;simp only [xz,simprocAttr])
  refine ah ?_
  (simp only [aC,aH];refine bf [0] rfl ⟨rfl,trivial⟩ rfl rfl rfl rfl ⟨amK,rfl⟩ ?_;try rfl)
end Go.Proofs.YtnblieajjclipaaGreat
