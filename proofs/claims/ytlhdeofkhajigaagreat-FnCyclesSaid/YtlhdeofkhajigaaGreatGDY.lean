/- 'c = append(append(append(c, c...), c...), c...)' on a variable. Conditions: those that each names. -/
import Derived.Test.YtlhdeofkhajigaaGreatGQU
import Derived.Test.YtlhdeofkhajigaaGreatGDS
import Derived.Test.YtlhdeofkhajigaaGreatCC
import Derived.Test.YtlhdeofkhajigaaGreatGRX
import Derived.Test.YtlhdeofkhajigaaGreatGAX
set_option linter.all false
set_option linter.unusedSimpArgs false
set_option linter.unusedVariables false
namespace Go.Proofs.YtlhdeofkhajigaaGreat
namespace Am
open Go Go.RowKit

section
variable {P:Program} {cf:Cfg} {b:Base} {N:Nat}
theorem wl_go {ops:Array Oper} {Q:Exit→Act→World→Prop} {rest:List Oper} {o:Oper} {a:Act} {w:World} (hg:o.guard=none) (h:o.wp P a w (wpList P ops Q rest) Q):wpList P ops Q (o::rest) a w:=by
  unfold wpList
  rw [if_pos (by simp [Region.wanted,hg])]
  exact .inl h
theorem wl_mv {ops:Array Oper} {Q:Exit→Act→World→Prop} {rest:List Oper} {o:Oper} {a:Act} {w:World} {d:Nat} {x:Operand} (q:o.dst=some d∧(o.op = .move x∨o.op = .assign x)∧o.guard=none) (h:wpList P ops Q rest (a.put (some d) (a.eval x)) w):wpList P ops Q (o::rest) a w:=by
  obtain ⟨h1,h2,h3⟩:=q
  refine wl_go h3 ?_
  unfold Oper.wp execOp
  rcases h2 with h2 | h2
  · simp only [h2,Sem.run_pure]
    show wpList P ops Q rest (a.put o.dst (a.eval x)) w
    rw [h1]
    exact h
  · simp only [h2,Sem.run_pure]
    show wpList P ops Q rest (a.put o.dst (a.eval x)) w
    rw [h1]
    exact h
theorem wl_app {ops:Array Oper} {Q:Exit→Act→World→Prop} {rest:List Oper} {o:Oper} {a:Act} {w w':World} {d t:Nat} {x y:Operand} {u v r:Value} (q:o.dst=some d∧o.op = .call { callee := .builtin .append,args:=#[x,y],argTypes:=#[t,t] }∧o.guard=none) (hx:a.eval x=u) (hy:a.eval y=v) (hr:(Builtin.append_ #[t,t] o.type #[u,v]).run P w = .ok r w') (h:wpList P ops Q rest (a.put (some d) r) w'):wpList P ops Q (o::rest) a w:=by
  obtain ⟨h1,h2,h3⟩:=q
  refine wl_go h3 ?_
  unfold Oper.wp execOp
  simp only [h2,resolve,invoke,builtin,Sem.run_bind,Sem.run_pure,Result.andThen_ok,List.map_toArray,List.map_cons,List.map_nil,hx,hy]
  rw [hr]
  show wpList P ops Q rest (a.put o.dst r) w'
  rw [h1]
  exact h
set_option maxHeartbeats 1000000 in
theorem awp_app4L {id:Nat} {o0 o1 o2 o3 o4 o5 o6 o7:Oper} {X:St} {Q:Exit→St→Prop} {t e s d0 d1 d2 d3 d4 d5 d6 i:Nat} {c c2 c3 c4:Cn}
    (q0:o0.dst=some d0∧(o0.op = .move (.tmp s)∨o0.op = .assign (.tmp s))∧o0.guard=none) (q1:o1.dst=some d1∧(o1.op = .move (.tmp s)∨o1.op = .assign (.tmp s))∧o1.guard=none) (q2:o2.dst=some d2∧o2.op = .call { callee := .builtin .append,args:=#[.tmp d0,.tmp d1],argTypes:=#[t,t] }∧o2.guard=none) (q3:o3.dst=some d3∧(o3.op = .move (.tmp s)∨o3.op = .assign (.tmp s))∧o3.guard=none) (q4:o4.dst=some d4∧o4.op = .call { callee := .builtin .append,args:=#[.tmp d2,.tmp d3],argTypes:=#[t,t] }∧o4.guard=none) (q5:o5.dst=some d5∧(o5.op = .move (.tmp s)∨o5.op = .assign (.tmp s))∧o5.guard=none) (q6:o6.dst=some d6∧o6.op = .call { callee := .builtin .append,args:=#[.tmp d4,.tmp d5],argTypes:=#[t,t] }∧o6.guard=none) (q7:o7.dst=some s∧(o7.op = .move (.tmp d6)∨o7.op = .assign (.tmp d6))∧o7.guard=none)
    (hnd:noDupB [s,d0,d1,d2,d3,d4,d5,d6]=true) (hlt:[s,d0,d1,d2,d3,d4,d5,d6].all (Nat.blt · N)=true)
    (hte:cf.ty t = .slice e) (hsz:cf.sz e=1) (hby:cf.bytes e≤4096)
    (hX:X.T s=(true,.lf (.own i))) (hi:X.H[i]? = some (.row e c)) (hfx:b.fx.getD i false=false) (hw:c.w=1) (hlen:c.len≤1000) (h2:c.app c=some c2) (h3:c2.app c=some c3) (h4:c3.app c=some c4)
    (h:Q .normal ⟨((((((((X.T.map (Lf.kill i)).put (some d0) (true,.und)).put (some d1) (true,.und)).put (some d2) (true,.und)).put (some d3) (true,.und)).put (some d4) (true,.und)).put (some d5) (true,.und)).put (some d6) (true,.lf (.own i))).put (some s) (true,.lf (.own i)),(X.H.map (Ob.map (Lf.kill i))).set i (.row e c4)⟩):awp P cf b N (.region id [o0,o1,o2,o3,o4,o5,o6,o7].toArray false) Q X:=fun a w ⟨φ,β,M,hR⟩=>by
  have hnd:=noDupB_nodup hnd
  have hnd2:[d6,d5,d4,d3,d2,d1,d0,s].Nodup:=List.pairwise_reverse.2 (List.Pairwise.imp (fun h e=>h e.symm) hnd)
  simp only [List.nodup_cons,List.mem_cons,not_or,List.not_mem_nil,not_false_eq_true,and_true,List.nodup_nil] at hnd hnd2
  simp only [List.all_cons,List.all_nil,Bool.and_true,Bool.and_eq_true,Nat.blt_eq] at hlt
  obtain ⟨ls,l0,l1,l2,l3,l4,l5,l6⟩:=hlt
  have hx:=(hR.t s).1 (by rw [hX])
  rw [hX] at hx
  have hx:a.tmps.getD s undef=φ i:=hx
  obtain ⟨vs,k1,k2,hSi⟩:=hR.hi.ob i _ hi
  rw [hw] at k1
  have hvl:vs.length=c.len:=by have:=k1.1;omega
  have hz:∀ (b:Act) (d:Nat) (u:Value),(b.put (some d) u).tmps.size=b.tmps.size:=fun b d u=>size_put
  have hsa:a.tmps.size=N:=hR.size
  have ev:∀ (b:Act) (x:Nat),b.eval (.tmp x)=b.tmps.getD x undef:=fun b x=>rfl
  have hcf:=hR.cf
  have hty:=hcf.ty t
  rw [hte] at hty
  obtain ⟨inf,hinf,hisz,hibt,z,hz1,hz2,hz3⟩:=hcf.info e (by rw [hsz];omega)
  have hil:=(List.getElem?_eq_some_iff.1 hi).1
  obtain ⟨x1,x2,x3,_⟩:=app_spec h2
  obtain ⟨y1,y2,y3,_⟩:=app_spec h3
  obtain ⟨z1,z2,z3,_⟩:=app_spec h4
  have ew:c4.w=1:=by rw [z2,y2,x2,hw]
  have el:c4.len=c.len+c.len+c.len+c.len:=by rw [z1,y1,x1]
  have hlit:∀ u∈vs,u.oneCell'=true:=fun u hu=>by
    have:=lit_cells k2 u hu
    cases u<;>first | rfl | exact this
  -- what the three appends come to
  have key:∃ U2 U3 U4 w2 w3 w4,(Builtin.append_ #[t,t] o2.type #[φ i,φ i]).run P w = .ok U2 w2∧(Builtin.append_ #[t,t] o4.type #[U2,φ i]).run P w2 = .ok U3 w3∧(Builtin.append_ #[t,t] o6.type #[U3,φ i]).run P w3 = .ok U4 w4∧w4.ownsRow 0 e 1 U4 (c.len+c.len+c.len+c.len) (vs++vs++vs++vs)∧w.grownBy w4 (φ i).ownBlock∧(U4.ownBlock=(φ i).ownBlock∨∃ g,U4.ownBlock=some g∧w.heap.size≤g):=by
    have k1b:=k1
    rcases k1.2 with ⟨h5,h6⟩ | ⟨gi,cap,cur,h5,_⟩
    · have hv0:vs=[]:=List.eq_nil_of_length_eq_zero (by omega)
      rw [h5,h6,hv0] at k1b
      have hr:∀ ty,(Builtin.append_ #[t,t] ty #[.slice none 0 0,.slice none 0 0]).run P w = .ok (.slice none 0 0) w:=fun ty=>run_append_none (P:=P) w 0 t ty e inf 1 hty hinf (.slice none 0 0) 0 [] k1b 0
      rw [h5,h6,hv0]
      exact ⟨_,_,_,w,w,w,hr _,hr _,hr _,k1b,⟨rfl,rfl,rfl,Nat.le_refl _,fun _ _ _=>rfl⟩,.inl rfl⟩
    · rw [h5] at k1b
      have hbi:β i gi:=hSi gi (by rw [h5];rfl)
      have hlv:gi<w.heap.size:=hR.hi.lt i gi hil hbi
      have hrd:∀ j u,vs[j]? = some u→w.cell? ((⟨gi,0,none⟩:Addr).add j)=some u:=k1b.cells (g:=gi) rfl
      obtain ⟨g2,cap2,w2,hr2,own2,gr2,rd2,bl2,pre2⟩:=app_step (P:=P) (t:=t) (ty:=o2.type) hty hinf hz1 (by rw [hisz,hsz]) (by rw [hz3,hsz]) k1b (g:=gi) (n:=c.len) (cap:=cap) hvl hrd hlit (fun _=>⟨[],by simp⟩) hlv (by omega) (by rw [hibt];exact hby)
      obtain ⟨g3',cap3,w3,hr3,own3,gr3,rd3,bl3,pre3⟩:=app_step (P:=P) (t:=t) (ty:=o4.type) hty hinf hz1 (by rw [hisz,hsz]) (by rw [hz3,hsz]) own2 (g:=gi) (n:=c.len) (cap:=cap) hvl rd2 hlit pre2 (Nat.lt_of_lt_of_le hlv gr2.size) (by omega) (by rw [hibt];exact hby)
      obtain ⟨g4',cap4,w4,hr4,own4,gr4,rd4,bl4,pre4⟩:=app_step (P:=P) (t:=t) (ty:=o6.type) hty hinf hz1 (by rw [hisz,hsz]) (by rw [hz3,hsz]) own3 (g:=gi) (n:=c.len) (cap:=cap) hvl rd3 hlit pre3 (Nat.lt_of_lt_of_le (Nat.lt_of_lt_of_le hlv gr2.size) gr3.size) (by omega) (by rw [hibt];exact hby)
      have kg2:w.grownBy w2 (some gi):=gr2
      have kg3:w.grownBy w3 (some gi):=⟨gr3.os.trans kg2.os,gr3.tape.trans kg2.tape,gr3.output.trans kg2.output,Nat.le_trans kg2.size gr3.size,fun k hk hn=>(gr3.block k (Nat.lt_of_lt_of_le hk kg2.size) fun e=>by
        rcases bl2 with b2 | b2
        · exact hn (by rw [e,b2])
        · have:k=g2:=by simpa using e
          omega).trans (kg2.block k hk hn)⟩
      have kb3:g3'=gi∨w.heap.size≤g3':=by
        have:=kg2.size
        rcases bl3 with b3 | b3
        · rcases bl2 with b2 | b2
          · exact .inl (b3.trans b2)
          · right;omega
        · right;omega
      have kg4:w.grownBy w4 (some gi):=⟨gr4.os.trans kg3.os,gr4.tape.trans kg3.tape,gr4.output.trans kg3.output,Nat.le_trans kg3.size gr4.size,fun k hk hn=>(gr4.block k (Nat.lt_of_lt_of_le hk kg3.size) fun e=>by
        have:k=g3':=by simpa using e
        rcases kb3 with b3 | b3
        · exact hn (by rw [e,b3])
        · omega).trans (kg3.block k hk hn)⟩
      have kb4:g4'=gi∨w.heap.size≤g4':=by
        have:=kg3.size
        rcases bl4 with b4 | b4
        · rcases kb3 with b3 | b3
          · exact .inl (b4.trans b3)
          · right;omega
        · right;omega
      rw [h5]
      refine ⟨_,_,_,w2,w3,w4,hr2,hr3,hr4,own4,kg4,?_⟩
      rcases kb4 with b4 | b4
      · exact .inl (by rw [b4];rfl)
      · exact .inr ⟨g4',rfl,b4⟩
  obtain ⟨U2,U3,U4,w2,w3,w4,r2,r3,r4,own4,gr4,bl4⟩:=key
  refine wp_region_lit ?_
  refine wl_mv q0 ?_
  refine wl_mv q1 ?_
  refine wl_app q2 (u:=φ i) (v:=φ i) ?_ ?_ r2 ?_
  · simp only [ev,ev_put,hz,hsa,ls,l0,l1,l2,l3,l4,l5,l6,hnd,hnd2,if_true,if_false,hx]
  · simp only [ev,ev_put,hz,hsa,ls,l0,l1,l2,l3,l4,l5,l6,hnd,hnd2,if_true,if_false,hx]
  refine wl_mv q3 ?_
  refine wl_app q4 (u:=U2) (v:=φ i) ?_ ?_ r3 ?_
  · simp only [ev,ev_put,hz,hsa,ls,l0,l1,l2,l3,l4,l5,l6,hnd,hnd2,if_true,if_false,hx]
  · simp only [ev,ev_put,hz,hsa,ls,l0,l1,l2,l3,l4,l5,l6,hnd,hnd2,if_true,if_false,hx]
  refine wl_mv q5 ?_
  refine wl_app q6 (u:=U3) (v:=φ i) ?_ ?_ r4 ?_
  · simp only [ev,ev_put,hz,hsa,ls,l0,l1,l2,l3,l4,l5,l6,hnd,hnd2,if_true,if_false,hx]
  · simp only [ev,ev_put,hz,hsa,ls,l0,l1,l2,l3,l4,l5,l6,hnd,hnd2,if_true,if_false,hx]
  refine wl_mv q7 ?_
  simp only [ev,ev_put,hz,hsa,ls,l0,l1,l2,l3,l4,l5,l6,hnd,hnd2,if_true,if_false,hx]
  show ∃ X',Q .normal X'∧R P cf b N X' _ w4
  refine ⟨_,h,?_⟩
  have hb1:=blk_own k1
  have hb2:=blk_own own4
  have hT:=hR.turn (w':=w4) (i:=i) (o' := .row e c4) (v:=U4) hil hfx (fun g=>blk U4=some g) gr4 (fun g hg'=>hSi g (by rw [← hb1];exact hg')) (fun g hg'=>by
      have hg2:=hg'
      rw [← hb2] at hg'
      refine ⟨(own4.lt g hg').2,?_⟩
      rcases bl4 with r4 | ⟨g',r4,r5⟩
      · exact .inl (hSi g (by rw [← hb1,← r4];exact hg'))
      · rw [r4] at hg';cases hg';exact .inr r5) ⟨vs++vs++vs++vs,by rw [ew,el];exact own4,app_rel h4 (app_rel h3 (app_rel h2 k2 k2) k2) k2,fun _ h=>h⟩ trivial
  have hP:=hT
  have hP:=hP.und l0 (φ i)
  have hP:=hP.und l1 (φ i)
  have hP:=hP.und l2 U2
  have hP:=hP.und l3 (φ i)
  have hP:=hP.und l4 U3
  have hP:=hP.und l5 (φ i)
  have hP:=hP.put (d:=some d6) (u:=U4) (g:=true) (v := .lf (.own i)) (by simpa using l6) (Mem.le_refl _) hP.new hP.hi hP.below ⟨fun _=>(upd_same φ i U4).symm,fun hf=>by cases hf⟩ (AV.lt_one.2 (by simp [Lf.ltB,killAt];exact hil))
  have hP:=hP.put (d:=some s) (u:=U4) (g:=true) (v := .lf (.own i)) (by simpa using ls) (Mem.le_refl _) hP.new hP.hi hP.below ⟨fun _=>(upd_same φ i U4).symm,fun hf=>by cases hf⟩ (AV.lt_one.2 (by simp [Lf.ltB,killAt];exact hil))
  exact ⟨_,_,_,hP⟩
end
end Am
end Go.Proofs.YtlhdeofkhajigaaGreat
/- The reference's draws for cycles, on the machine. Conditions: bytes are bytes. -/
set_option linter.all false
set_option linter.unusedSimpArgs false
set_option linter.unusedVariables false
namespace Go.Proofs.YtlhdeofkhajigaaGreat
open Go Go.RowKit Am

abbrev fpR (m s a:List (List Int)) (x:Int) (r:Int×Int):AV := .tup [.agg [.b (.sl (.ii m)),.b (.sl (.ii s))],.one (.b (.sl (.ii a))),.one (.b (.val (.int .i64 x))),.agg [.b (.val (.int .i64 r.1)),.b (.val (.int .i64 r.2))]]
set_option maxHeartbeats 2000000 in
theorem drawFindPot_x {bs:List Int} (hb:∀ b∈bs,0≤b∧b<256):∃ m s a x r,Does Tryz.prog 72 [.lf (.b (.raw bs))] (.imm (fpR m s a x r)):=by
  have hc:CuOK 0 (bs,0,0):=⟨hb,Int.le_refl _,Int.le_refl _⟩
  obtain ⟨m,s,c1,a1,a2,a3,b1,d1⟩:=problem_h (c:=(bs,0,0)) (hc.mono (by omega))
  have hc1:=b1 _ hc
  obtain ⟨a,c2,a4,a5,b2,d2⟩:=algorithm_h (m:=m) (s:=s) (c:=c1) a1 a2 (hc1.mono (by omega))
  have hc2:=b2 _ hc1
  obtain ⟨x,c3,b3,d3⟩:=state8_h (m:=m) (s:=s) (c:=c2) (hc2.mono (by omega))
  have hc3:=b3 _ hc2
  obtain ⟨r,c4,b4,d4⟩:=exact9_h m s a x (c:=c3) (hc3.mono (by omega))
  refine ⟨m,s,a,x,r,?_⟩
  obtain ⟨p,q⟩:=r
  refine spec_imm Tryz.func72 rfl Tryz.ntmps72 cfOK (fun _ _=>by kernel_rfl) rfl (Nat.le_of_ble_eq_true rfl) ?_
  intro M0 w0
  rw [Tryz.results72]
  refine amGo ?_
  (refine .inr (.inl (callW_a [2] (d1) rfl rfl rfl rfl ⟨rfl,trivial⟩ rfl rfl rfl rfl ?_));refine amC ?_)
  (refine amB ?_;refine awp_anyGH 0 [(2,[2]),(5,[2])] [2] [(2,[]),(5,[])] [(2,2,curO c2,.sl (.ii a)),(5,2,curO c3,.int x)] ?_;refine amNH ?_)
  (refine ⟨callG_h (d2) rfl rfl rfl rfl rfl rfl rfl,?_⟩;refine amSG ?_)
  (refine ⟨callG_h (d3) rfl rfl rfl rfl rfl rfl rfl,?_⟩;refine amSG ?_)
  (refine amB ?_;refine awp_anyGH 0 [(7,[2]),(8,[0]),(11,[1])] [0,1,2] [(7,[0,1]),(8,[1,2]),(11,[0,2])] [(7,2,curO c4,frA (p,q))] ?_;refine amNH ?_)
  (refine ⟨callG_h (d4) rfl rfl rfl rfl rfl rfl rfl,?_⟩;refine amSG ?_)
  refine amGo ?_
  (simp only [xec,simprocAttr];refine ⟨[_,_,_,_],⟨⟨amK,rfl⟩,rfl,rfl,⟨amK,rfl⟩,trivial⟩,rfl,Imp.eq ?_⟩)
  rfl
set_option maxHeartbeats 2000000 in
theorem drawFindCyc_x {bs:List Int} (hb:∀ b∈bs,0≤b∧b<256):∃ m s a x r,Does Tryz.prog 31 [.lf (.b (.raw bs))] (.imm (fpR m s a x r)):=by
  obtain ⟨m,s,a,x,r,hD⟩:=drawFindPot_x hb
  refine ⟨m,s,a,x,r,?_⟩
  refine spec_imm Tryz.func31 rfl Tryz.ntmps31 cfOK (fun _ _=>by kernel_rfl) rfl (Nat.le_of_ble_eq_true rfl) ?_
  intro M0 w0
  rw [Tryz.results31]
  refine amGo ?_
  ((try refine Or.inl ?_);refine ⟨_,(hD),amF,?_⟩;refine amC ?_)
  refine amGo ?_
  (simp only [xec,simprocAttr];refine ⟨[_,_,_,_],⟨⟨amK,rfl⟩,rfl,rfl,⟨amK,rfl⟩,trivial⟩,rfl,Imp.eq ?_⟩)
  rfl
set_option maxHeartbeats 4000000 in
theorem l9Find_h {m s:List (List Int)} {g:PrT} (hF:PrFull m s g) {a:Int×Int} (ha:ratioB a=true) {to:Nat} (hto:to<g.list.length):∀ (n:Nat),n≤6→∀ (p:Nat) (gain:Int),p<g.list.length → -100000000000000*(10-(n:Int))≤gain→gain≤100000000000000*(10-(n:Int)) →
    DoesH Tryz.prog 77 [grA g,frA a,.int p,.int to,.int n,.int gain] [] [] (.tup [.one (.own 0),.one (.b (.val (.bool (firstS s.length n (restE a (egs g.rows) s.length p to gain)).isSome)))]) [.row 3 (.ints ((firstS s.length n (restE a (egs g.rows) s.length p to gain)).getD []))]:=by
  intro n
  have hE:=ed_ok hF
  have hG:=gn_ok hF ha
  have hrl:=hF.rlen
  have hle:=hF.le
  have hl:=prob_len hF.prob
  cases n with
  | zero =>
    intro hn p gain hp h1 h2
    have e:restE a (egs g.rows) s.length p to gain []=(decide ((p:Int)=(to:Int)) && decide (0<gain)):=by unfold restE;rw [gainE,Int.add_zero];rfl
    have h3:(firstS s.length 0 (restE a (egs g.rows) s.length p to gain)).isSome=bif decide ((p:Int)=(to:Int)) then decide (0<gain) else false:=by
      rw [firstS_zero,e]
      cases decide ((p:Int)=(to:Int))<;>cases decide (0<gain)<;>rfl
    have h4:(firstS s.length 0 (restE a (egs g.rows) s.length p to gain)).getD []=[]:=by
      rw [firstS_zero]
      cases restE a (egs g.rows) s.length p to gain []<;>rfl
    rw [h3,h4]
    refine spec_hB Tryz.func77 rfl Tryz.ntmps77 cfOK (fun _ _=>by kernel_rfl) rfl rfl rfl ?_
    intro M0 w0 S φ0
    rw [Tryz.results77]
    refine amGo ?_
    refine awp_cond amQ (fun hc => ?_) (fun hc => ?_)
    · refine amGoR ?_
      refine amGo ?_
      (simp only [ends_normal,ends_ret];refine retH_2 (vs:=[_,_]) [2] rfl ⟨rfl,trivial⟩ rfl rfl rfl rfl ⟨rfl,rfl,trivial⟩ ?_;try rfl)
    · simp at hc
  | succ n =>
    intro hn p gain hp h1 h2
    have hp':p<(eg3 g.rows).length:=by simp [eg3];omega
    have hrow:=hF.row p (by omega)
    have hlen:((eg3 g.rows).getD p []).length=s.length:=eg3_rl.trans hrow
    rw [firstS_cons hE.k.1]
    generalize hv:(fun (r:Nat)=>(firstS s.length n fun rs=>restE a (egs g.rows) s.length p to gain ((r:Int)::rs)).map fun rs=>(r:Int)::rs)=f
    have hfr:∀ r:Nat,f r=(firstS s.length n (restE a (egs g.rows) s.length (toE (egs g.rows) s.length p r) to (gain+gainC a.1 a.2 ((egs g.rows).getD (p*s.length+r) [])))).map fun rs=>(r:Int)::rs:=fun r=>by
      rw [← hv]
      simp only [restE_cons]
    refine spec_hB Tryz.func77 rfl Tryz.ntmps77 cfOK (fun _ _=>by kernel_rfl) rfl rfl rfl ?_
    intro M0 w0 S φ0
    rw [Tryz.results77]
    refine amGo ?_
    refine awp_cond amQ (fun hc => ?_) (fun hc => ?_)
    · exfalso
      simp at hc
      omega
    refine amGo ?_
    refine awp_rounds (α:=Nat) (fun r=>[(14,true,.int r)]) [2,3,4,5,6,7] (fun _=>[.box [.b (.sl (.k 2 g.list)),.b (.sl (.ki 3 (eg3 g.rows))),.b (.val (.bool false))],.box [.b (.val (.int .i64 a.1)),.b (.val (.int .i64 a.2))]]) (fun r=>r≤s.length∧(List.range r).findSome? f=none) (fun r=>s.length-r) 0 (by ((try simp only [xk]);(repeat (refine leK_cons ?_ ?_;first | (exact amE) | rotate_left));(refine leK_nil ?_;exact (by rfl));(all_goals (try (simp only [xr,simprocAttr];try refine int_eq1 ?_))))) ⟨Nat.zero_le _,rfl⟩ fun r hr => ?_
    obtain ⟨hr,hno⟩:=hr
    simp only [xr,simprocAttr]
    refine amGo ?_
    refine awp_cond amQ (fun hd => ?_) (fun hd => ?_)
    · have hd:=of_decide_eq_true hd
      have hr':r<s.length:=by omega
      have hat:=(hE.at hp hr').1
      have hge:=hG _ (show (egs g.rows).getD (p*s.length+r) []∈egs g.rows by rw [getD_in hat];exact List.getElem_mem hat)
      have hto2:=toE_at hE hp hr'
      have he3:=eg3_e hF hp hr'
      have hgc:gainC a.1 a.2 ((egs g.rows).getD (p*s.length+r) [])=a.2*((egs g.rows).getD (p*s.length+r) []).getD 2 0-a.1*((egs g.rows).getD (p*s.length+r) []).getD 3 0:=rfl
      have hc0:(c3 ((egs g.rows).getD (p*s.length+r) [])).getD 0 0=(toE (egs g.rows) s.length p r:Int):=hto2.1
      have hI:=l9Find_d hF ha hto n (by omega) (toE (egs g.rows) s.length p r) (gain+gainC a.1 a.2 ((egs g.rows).getD (p*s.length+r) [])) hto2.2 (by omega) (by omega)
      refine amGo ?_
      rw [he3]
      ((try refine Or.inl ?_);refine ⟨_,(l9Gain_d ((egs g.rows).getD (p*s.length+r) []) a hge.1 (by omega) hge.2.2.1 (by omega)),.inl rfl,?_⟩;refine amC ?_)
      refine amGo ?_
      rw [hc0,show ((n+1:Nat):Int)-1=(n:Int) by omega]
      cases hfs:firstS s.length n (restE a (egs g.rows) s.length (toE (egs g.rows) s.length p r) to (gain+gainC a.1 a.2 ((egs g.rows).getD (p*s.length+r) []))) with
      | none =>
        rw [hfs] at hI
        have hI:Does _ _ _ (.imm (.tup [.one (.b (.sl (.ints []))),.one (.b (.val (.bool false)))])):=hI
        ((try refine Or.inl ?_);refine ⟨_,(hI),amF,?_⟩;refine amC ?_)
        refine amGo ?_
        refine awp_cond amQ (fun hz => ?_) (fun hz => ?_)
        · cases hz
        refine amGo ?_
        refine ⟨r+1,by omega,fs_step hno (by rw [hfr,hfs];rfl),by omega,.inr ⟨2,Nat.le_of_ble_eq_true rfl,leT_of ?_ rfl rfl rfl⟩⟩
        ((try simp only [xk]);(repeat (refine leK_cons ?_ ?_;first | (exact amE) | rotate_left));(refine leK_nil ?_;exact (by rfl));(all_goals (try (simp only [xr,simprocAttr];try refine int_eq1 ?_))))
      | some w =>
        have hfin:(List.range s.length).findSome? f=some ((r:Int)::w):=fs_hit hr' hno (by rw [hfr,hfs];rfl)
        have hwl:w.length=n:=preS_len (k:=s.length ^ n) hfs
        rw [hfs] at hI
        rw [hfin]
        have hI:Does _ _ _ (.imm (.tup [.one (.b (.sl (.ints w))),.one (.b (.val (.bool true)))])):=hI
        ((try refine Or.inl ?_);refine ⟨_,(hI),amF,?_⟩;refine amC ?_)
        refine amGo ?_
        refine awp_cond amQ (fun hz => ?_) (fun hz => ?_)
        · (refine amB ?_;refine awp_regO [false,true] ?_;refine amN ?_)
          refine amGo ?_
          (simp only [ends_normal,ends_ret];refine retH_2 (vs:=[_,_]) [3] rfl ⟨rfl,trivial⟩ rfl rfl rfl rfl ⟨rfl,rfl,trivial⟩ ?_;try rfl)
        · cases hz
    · have hd:=of_decide_eq_false hd
      obtain rfl:r=s.length:=by omega
      rw [hno]
      refine amGoR ?_
      refine amGo ?_
      (simp only [ends_normal,ends_ret];refine retH_2 (vs:=[_,_]) [2] rfl ⟨rfl,trivial⟩ rfl rfl rfl rfl ⟨rfl,rfl,trivial⟩ ?_;try rfl)
end Go.Proofs.YtlhdeofkhajigaaGreat
/- The reference's draw for CycleGain, on the machine. Conditions: bytes are bytes. -/
set_option linter.all false
set_option linter.unusedSimpArgs false
set_option linter.unusedVariables false
namespace Go.Proofs.YtlhdeofkhajigaaGreat
open Go Go.RowKit Am

/-- the cycle that is found in n steps from a pair on -/
def dcF (E:List (List Int)) (K p n:Nat):List Int:=(firstS K n (restE (0,1) E K p p 1)).getD []
def dcW (E:List (List Int)) (K p:Nat):Nat→List Int
  | 0=>[]
  | k+1=>if dcW E K p k=[] then dcF E K p (k+1) else dcW E K p k
theorem dcF_len (E:List (List Int)) (K p n:Nat):(dcF E K p n).length≤n:=by
  unfold dcF
  cases h:firstS K n (restE (0,1) E K p p 1) with
  | none=>simp
  | some w =>
    have:w.length=n:=preS_len (k:=K ^ n) h
    show w.length≤n
    omega
theorem dcW_len (E:List (List Int)) (K p:Nat):∀ k,(dcW E K p k).length≤k
  | 0=>by simp [dcW]
  | k+1=>by
    have h1:=dcW_len E K p k
    have h2:=dcF_len E K p (k+1)
    unfold dcW
    split<;>omega
theorem dcW_end {E:List (List Int)} {K p k:Nat} (h:dcW E K p k≠[]):∀ d,dcW E K p (k+d)=dcW E K p k
  | 0=>rfl
  | d+1=>by
    have ih:=dcW_end h d
    show (if dcW E K p (k+d)=[] then _ else dcW E K p (k+d))=_
    rw [ih,if_neg h]
/-- whether a cycle is looked for -/
def dcB (m s nx:List (List Int)) (x:Int) (rs:List Int):Bool := !(prQ m s nx x).2 && seqB s.length rs
noncomputable def dcZ (m s nx:List (List Int)) (x:Int) (rs:List Int):List Int:=bif dcB m s nx x rs then dcW (egs (prQ m s nx x).1.rows) s.length (afterE (egs (prQ m s nx x).1.rows) s.length 0 rs) 4 else []
abbrev cgR (m s a:List (List Int)) (x:Int) (r:Int×Int) (us vs:List Int):AV := .tup [.agg [.b (.sl (.ii m)),.b (.sl (.ii s))],.one (.b (.sl (.ii a))),.one (.b (.val (.int .i64 x))),.agg [.b (.val (.int .i64 r.1)),.b (.val (.int .i64 r.2))],.one (.b (.sl (.ints us))),.one (.b (.sl (.ints vs)))]
theorem share {T G:Prop} (h:(Unit→T)→G) (t:T):G:=h fun _=>t
abbrev dcS (a:List (List Int)) (x:Int) (rs:List Int) (H:List Ob):St:=⟨tab [(14,true,.lf (.own 5)),(8,true,.lf (.ptr 2 0)),(9,true,.lf (.ptr 3 0)),(10,true,.sl (.ii a)),(11,true,.int x),(12,true,.lf (.ptr 4 0)),(13,true,.sl (.ints rs)),(2,true,.lf (.ptr 0 0)),(5,true,.lf (.ptr 1 0))],H⟩
set_option maxRecDepth 8000 in
set_option maxHeartbeats 8000000 in
theorem drawCyc_x {bs:List Int} (hb:∀ b∈bs,0≤b∧b<256):∃ m s a x r us vs,Does Tryz.prog 34 [.lf (.b (.raw bs))] (.imm (cgR m s a x r us vs)):=by
  have hc:CuOK 0 (bs,0,0):=⟨hb,Int.le_refl _,Int.le_refl _⟩
  obtain ⟨m,s,c1,a1,a2,a3,b1,d1⟩:=problem_h (c:=(bs,0,0)) (hc.mono (by omega))
  have hc1:=b1 _ hc
  obtain ⟨a,c2,a4,a5,b2,d2⟩:=algorithm_h (m:=m) (s:=s) (c:=c1) a1 a2 (hc1.mono (by omega))
  have hc2:=b2 _ hc1
  obtain ⟨x,c3,b3,d3⟩:=state8_h (m:=m) (s:=s) (c:=c2) (hc2.mono (by omega))
  have hc3:=b3 _ hc2
  obtain ⟨r,c4,b4,d4⟩:=exact9_h m s a x (c:=c3) (hc3.mono (by omega))
  have hc4:=b4 _ hc3
  obtain ⟨rs,c5,a7,b5,d5⟩:=reqs8_h (m:=m) (s:=s) (c:=c4) (by omega) (hc4.mono (by omega))
  have hc5:=b5 _ hc4
  obtain ⟨p,q⟩:=r
  clear b1 b2 b3 b4 b5 hc hc1 hc2 hc3 hc4 hb
  have hG:=l9Get_d m s a x
  have hT:=l8Takes_d m s x rs
  have hcase:∃ vs,Does Tryz.prog 34 [.lf (.b (.raw bs))] (.imm (cgR m s a x (p,q) rs vs)):=by
    have d6:=pick_h (n:=10) (c:=c5) (hc5.mono (by omega))
    have hc6:=pkC_ok (n:=10) hc5
    generalize pkV 10 c5=tg at d6
    generalize pkC 10 c5=c6 at d6 hc6
    obtain ⟨W,hW⟩:∃ W,W=dcZ m s a x rs:=⟨_,rfl⟩
    have hWl:W.length≤4:=by
      rw [hW]
      unfold dcZ
      cases dcB m s a x rs
      · simp
      · exact dcW_len _ _ _ 4
    obtain ⟨n1,hn1⟩:∃ n1:Int,max (s.length:Int) 1=n1:=⟨_,rfl⟩
    have d7:=pick_h (n:=n1) (c:=c6) (hc6.mono (by omega))
    obtain ⟨rs2,c7,a8,_,d8⟩:=reqs8_h (m:=m) (s:=s) (c:=c6) (by omega) (hc6.mono (by omega))
    refine ⟨if tg=0 then W++[pkV n1 c6] else if tg=1 then rs2 else if tg=2 then W++W++W++W else W,?_⟩
    generalize pkV n1 c6=v1 at d7
    generalize pkC n1 c6=c8 at d7
    refine spec_imm Tryz.func34 rfl Tryz.ntmps34 cfOK (fun _ _=>by kernel_rfl) rfl (Nat.le_of_ble_eq_true rfl) ?_
    intro M0 w0
    rw [Tryz.results34]
    refine amGo ?_
    (refine .inr (.inl (callW_a [2] (d1) rfl rfl rfl rfl ⟨rfl,trivial⟩ rfl rfl rfl rfl ?_));refine amC ?_)
    (refine amB ?_;refine awp_anyGH 0 [(2,[2]),(5,[2])] [2] [(2,[]),(5,[])] [(2,2,curO c2,.sl (.ii a)),(5,2,curO c3,.int x)] ?_;refine amNH ?_)
    (refine ⟨callG_h (d2) rfl rfl rfl rfl rfl rfl rfl,?_⟩;refine amSG ?_)
    (refine ⟨callG_h (d3) rfl rfl rfl rfl rfl rfl rfl,?_⟩;refine amSG ?_)
    (refine amB ?_;refine awp_anyGH 1 [(4,[2]),(7,[2]),(8,[4]),(9,[4])] [2,4] [(4,[4]),(7,[4]),(8,[2]),(9,[2])] [(4,2,curO c4,frA (p,q)),(7,2,curO c5,.sl (.ints rs))] ?_;refine amNH ?_)
    (refine ⟨callG_h (d4) rfl rfl rfl rfl rfl rfl rfl,?_⟩;refine amSG ?_)
    (refine ⟨callG_h (d5) rfl rfl rfl rfl rfl rfl rfl,?_⟩;refine amSG ?_)
    refine amGo ?_
    apply share
    · intro H
      cases hq:(prQ m s a x).2
      · have hF:=prQ_full hq
        have hk:(takesB m s x [] && algB m s a)=true:=by
          cases h:(takesB m s x [] && algB m s a)
          · rw [prQ_bad h] at hq;cases hq
          · rfl
        rw [hk] at hG
        have hG:Does Tryz.prog 49 [prA m s,.sl (.ii a),.int x] (.imm (.tup [.agg [.b (.sl (.k 2 (prQ m s a x).1.list)),.b (.sl (.ki 3 (eg3 (prQ m s a x).1.rows))),.b (.val (.bool false))],.one (.b (.val (.bool true)))])):=by
          have hG2:=hG
          unfold prAv at hG2
          rw [hq] at hG2
          exact hG2
        have hsq:takesB m s x rs=seqB s.length rs:=by
          rw [Bool.and_eq_true] at hk
          have h1:=hk.1
          unfold takesB at h1 ⊢
          simp only [Bool.and_eq_true] at h1
          rw [h1.1.1,h1.1.2]
          rfl
        rw [hsq] at hT
        unfold dcZ dcB at hW
        rw [hq] at hW
        have hW2:=hW
        obtain ⟨g,hg⟩:∃ g,g=(prQ m s a x).1:=⟨_,rfl⟩
        rw [← hg] at hG hW2 hF
        ((try refine Or.inl ?_);refine ⟨_,(hG),amF,?_⟩;refine amC ?_)
        refine amGo ?_
        ((try refine Or.inl ?_);refine ⟨_,(hT),.inl rfl,?_⟩;refine amC ?_)
        refine amGo ?_
        refine awp_meet (dcS a x rs [.box [.b (.val (.slice none 0 0)),.b (.val (.slice none 0 0))],.box [.b (.val (.int .i64 0)),.b (.val (.int .i64 0))],curO c5,.box [.b (.sl (.ii m)),.b (.sl (.ii s))],.box [.b (.val (.int .i64 p)),.b (.val (.int .i64 q))],.row 3 (.ints W)]) ?_ (H ())
        refine awp_cond amQ (fun hs => ?_) (fun hs => ?_)
        · have hs:seqB s.length rs=true:=hs
          obtain ⟨hrq,hrl⟩:=seq_reqs hs
          rw [hs] at hW2
          have hpos:=hF.pos
          have hA:=l9After_d hF (p:=0) hpos hrq (by omega)
          have hlt:=(walk_wk hF rs 0 hpos hrq).2
          have hW2:W=dcW (egs g.rows) s.length (afterE (egs g.rows) s.length 0 rs) 4:=hW2
          generalize afterE (egs g.rows) s.length 0 rs=at0 at hA hlt hW2
          have hwl:=dcW_len (egs g.rows) s.length at0
          have hfd:=fun n hn=>l9Find_h hF (a:=(0,1)) (by decide) hlt n hn at0 1 hlt (by omega) (by omega)
          refine amGo ?_
          ((try refine Or.inl ?_);refine ⟨_,(hA),.inl rfl,?_⟩;refine amC ?_)
          refine amGo ?_
          refine awp_rounds (α:=Nat) (fun k=>[(18,true,.int ((k+1:Nat):Int)),(14,true,.lf (.own 5))]) [2,5,8,9,10,11,12,13,15,17] (fun k=>[.box [.b (.val (.slice none 0 0)),.b (.val (.slice none 0 0))],.box [.b (.val (.int .i64 0)),.b (.val (.int .i64 0))],curO c5,.box [.b (.sl (.ii m)),.b (.sl (.ii s))],.box [.b (.val (.int .i64 p)),.b (.val (.int .i64 q))],.row 3 (.ints (dcW (egs g.rows) s.length at0 k)),.box [.b (.sl (.k 2 g.list)),.b (.sl (.ki 3 (eg3 g.rows))),.b (.val (.bool false))]]) (fun k=>k≤4) (fun k=>4-k) 0 (by ((try simp only [xk]);(repeat (refine leK_cons ?_ ?_;first | (exact amE) | rotate_left));(refine leK_nil ?_;exact (by rfl));(all_goals (try (simp only [xr,simprocAttr];try refine int_eq1 ?_))))) (by omega) fun k hk => ?_
          have hwk:=hwl k
          simp only [xr,simprocAttr]
          refine amGo ?_
          refine awp_cond amQ (fun hd => ?_) (fun hd => ?_)
          · have hd1:k<4∧dcW (egs g.rows) s.length at0 k=[]:=by
              cases h1:decide (((k+1:Nat):Int)≤4)
              · rw [h1] at hd;cases hd
              · rw [h1] at hd
                have h2:=of_decide_eq_true h1
                have h3:((dcW (egs g.rows) s.length at0 k).length:Int)=0:=of_decide_eq_true hd
                exact ⟨by omega,List.eq_nil_of_length_eq_zero (by omega)⟩
            have hnx:dcW (egs g.rows) s.length at0 (k+1)=(firstS s.length (k+1) (restE (0,1) (egs g.rows) s.length at0 at0 1)).getD []:=if_pos hd1.2
            (refine awp_frz 5 rfl ?_;simp only [xz,simprocAttr])
            refine amGo ?_
            (refine .inr (.inl (callW_b (hfd (k+1) (by omega)) rfl rfl rfl rfl rfl rfl rfl ?_));refine amC ?_)
            (refine awp_mv 5 7 rfl rfl (by decide) rfl rfl ?_;simp only [xm,simprocAttr])
            refine amGo ?_
            refine ⟨k+1,by omega,by omega,.inr ⟨7,Nat.le_of_ble_eq_true rfl,leT_of ?_ rfl rfl rfl⟩⟩
            ((try simp only [xk]);(repeat (refine leK_cons ?_ ?_;first | (exact amE) | rotate_left));(refine leK_nil ?_;exact (by rw [hnx];rfl));(all_goals (try (simp only [xr,simprocAttr];try refine int_eq1 ?_))))
          · have hfin:W=dcW (egs g.rows) s.length at0 k:=by
              rw [hW2]
              by_cases h4:k=4
              · rw [h4]
              · have h5:dcW (egs g.rows) s.length at0 k≠[]:=by
                  intro h6
                  rw [h6,decide_eq_true (show ((k+1:Nat):Int)≤4 by omega)] at hd
                  cases hd
                obtain ⟨d,hd4⟩:=Nat.exists_eq_add_of_le hk
                rw [hd4]
                exact dcW_end h5 d
            refine amGo ?_
            refine lead_T 6 (Nat.le_of_ble_eq_true rfl) (leT_of ?_ rfl rfl rfl)
            ((try simp only [xk]);(repeat (refine leK_cons ?_ ?_;first | (exact amE) | rotate_left));(refine leK_nil ?_;exact (by rw [hfin];rfl));(all_goals (try (simp only [xr,simprocAttr];try refine int_eq1 ?_))))
        · have hs:seqB s.length rs=false:=hs
          rw [hs] at hW2
          have hW2:W=[]:=hW2
          refine amGo ?_
          refine lead_T 6 (Nat.le_of_ble_eq_true rfl) (leT_of ?_ rfl rfl rfl)
          ((try simp only [xk]);(repeat (refine leK_cons ?_ ?_;first | (exact amE) | rotate_left));(refine leK_nil ?_;exact (by rw [hW2];rfl));(all_goals (try (simp only [xr,simprocAttr];try refine int_eq1 ?_))))
      · have hW2:W=[]:=by rw [hW];unfold dcZ dcB;rw [hq];rfl
        cases hk:(takesB m s x [] && algB m s a)
        · rw [hk,hq] at hG
          have hG:Does Tryz.prog 49 [prA m s,.sl (.ii a),.int x] (.imm (.tup [.agg [.b (.val (.slice none 0 0)),.b (.val (.slice none 0 0)),.b (.val (.bool false))],.one (.b (.val (.bool false)))])):=hG
          ((try refine Or.inl ?_);refine ⟨_,(hG),amF,?_⟩;refine amC ?_)
          refine amGo ?_
          (refine .inr (.inr (callW_gf (.bool false) (by first | rfl | (simp only [xr,simprocAttr];done)) rfl ?_));refine amC ?_)
          refine amGo ?_
          refine awp_meet (dcS a x rs [.box [.b (.val (.slice none 0 0)),.b (.val (.slice none 0 0))],.box [.b (.val (.int .i64 0)),.b (.val (.int .i64 0))],curO c5,.box [.b (.sl (.ii m)),.b (.sl (.ii s))],.box [.b (.val (.int .i64 p)),.b (.val (.int .i64 q))],.row 3 (.ints W)]) ?_ (H ())
          refine awp_cond amQ (fun hs => ?_) (fun hs => ?_)
          · cases hs
          refine amGo ?_
          refine lead_T 6 (Nat.le_of_ble_eq_true rfl) (leT_of ?_ rfl rfl rfl)
          ((try simp only [xk]);(repeat (refine leK_cons ?_ ?_;first | (exact amE) | rotate_left));(refine leK_nil ?_;exact (by rw [hW2];rfl));(all_goals (try (simp only [xr,simprocAttr];try refine int_eq1 ?_))))
        · rw [hk] at hG
          have hG:Does Tryz.prog 49 [prA m s,.sl (.ii a),.int x] (.imm (.tup [.agg [.b (.sl (.k 2 (prQ m s a x).1.list)),.b (.sl (.ki 3 (eg3 (prQ m s a x).1.rows))),.b (.val (.bool true))],.one (.b (.val (.bool false)))])):=by
            have hG2:=hG
            unfold prAv at hG2
            rw [hq] at hG2
            exact hG2
          ((try refine Or.inl ?_);refine ⟨_,(hG),amF,?_⟩;refine amC ?_)
          refine amGo ?_
          (refine .inr (.inr (callW_gf (.bool false) (by first | rfl | (simp only [xr,simprocAttr];done)) rfl ?_));refine amC ?_)
          refine amGo ?_
          refine awp_meet (dcS a x rs [.box [.b (.val (.slice none 0 0)),.b (.val (.slice none 0 0))],.box [.b (.val (.int .i64 0)),.b (.val (.int .i64 0))],curO c5,.box [.b (.sl (.ii m)),.b (.sl (.ii s))],.box [.b (.val (.int .i64 p)),.b (.val (.int .i64 q))],.row 3 (.ints W)]) ?_ (H ())
          refine awp_cond amQ (fun hs => ?_) (fun hs => ?_)
          · cases hs
          refine amGo ?_
          refine lead_T 6 (Nat.le_of_ble_eq_true rfl) (leT_of ?_ rfl rfl rfl)
          ((try simp only [xk]);(repeat (refine leK_cons ?_ ?_;first | (exact amE) | rotate_left));(refine leK_nil ?_;exact (by rw [hW2];rfl));(all_goals (try (simp only [xr,simprocAttr];try refine int_eq1 ?_))))
    · clear hG hT hW
      refine amGo ?_
      (refine .inr (.inl (callW_a [2] (d6) rfl rfl rfl rfl ⟨rfl,trivial⟩ rfl rfl rfl rfl ?_));refine amC ?_)
      refine amGo ?_
      by_cases t0:tg=0
      · rw [if_pos t0]
        refine awp_cond amQ (fun e0 => ?_) (fun e0 => ?_)
        · refine amGo ?_
          ((try refine Or.inl ?_);refine ⟨_,(l1Most_e _ _),.inl rfl,?_⟩;refine amC ?_)
          rw [hn1]
          (refine .inr (.inl (callW_a [2] (d7) rfl rfl rfl rfl ⟨rfl,trivial⟩ rfl rfl rfl rfl ?_));refine amC ?_)
          refine amGo ?_
          (refine awp_frz 5 rfl ?_;simp only [xz,simprocAttr])
          (refine amB ?_;refine awp_anyG 0 [(6,[0]),(9,[1])] [0,1] [(6,[1]),(9,[0])] ?_;refine amNG ?_)
          refine amGo ?_
          (simp only [xec,simprocAttr];refine ⟨[_,_,_,_,_,_],⟨⟨amK,rfl⟩,rfl,rfl,⟨amK,rfl⟩,rfl,rfl,trivial⟩,rfl,Imp.eq ?_⟩)
          rfl
        · simp [t0] at e0
      rw [if_neg t0]
      refine awp_cond amQ (fun e0 => ?_) (fun e0 => ?_)
      · exact (t0 (of_decide_eq_true e0)).elim
      refine amGo ?_
      by_cases t1:tg=1
      · rw [if_pos t1]
        refine awp_cond amQ (fun e1 => ?_) (fun e1 => ?_)
        · refine amGo ?_
          (refine .inr (.inl (callW_a [2] (d8) rfl rfl rfl rfl ⟨rfl,trivial⟩ rfl rfl rfl rfl ?_));refine amC ?_)
          refine amGo ?_
          (refine amB ?_;refine awp_anyG 0 [(6,[0]),(9,[1])] [0,1] [(6,[1]),(9,[0])] ?_;refine amNG ?_)
          refine amGo ?_
          (simp only [xec,simprocAttr];refine ⟨[_,_,_,_,_,_],⟨⟨amK,rfl⟩,rfl,rfl,⟨amK,rfl⟩,rfl,rfl,trivial⟩,rfl,Imp.eq ?_⟩)
          rfl
        · simp [t1] at e1
      rw [if_neg t1]
      refine awp_cond amQ (fun e1 => ?_) (fun e1 => ?_)
      · exact (t1 (of_decide_eq_true e1)).elim
      refine amGo ?_
      by_cases t2:tg=2
      · rw [if_pos t2]
        refine awp_cond amQ (fun e2 => ?_) (fun e2 => ?_)
        · refine awp_app4L ⟨rfl,.inl rfl,rfl⟩ ⟨rfl,.inl rfl,rfl⟩ ⟨rfl,rfl,rfl⟩ ⟨rfl,.inl rfl,rfl⟩ ⟨rfl,rfl,rfl⟩ ⟨rfl,.inl rfl,rfl⟩ ⟨rfl,rfl,rfl⟩ ⟨rfl,.inr rfl,rfl⟩ (by decide) rfl rfl rfl (by decide) rfl rfl rfl rfl (by show W.length≤1000;omega) rfl rfl rfl ?_
          simp only [xr,simprocAttr]
          (refine awp_frz 5 rfl ?_;simp only [xz,simprocAttr])
          refine amGo ?_
          (refine amB ?_;refine awp_anyG 0 [(6,[0]),(9,[1])] [0,1] [(6,[1]),(9,[0])] ?_;refine amNG ?_)
          refine amGo ?_
          (simp only [xec,simprocAttr];refine ⟨[_,_,_,_,_,_],⟨⟨amK,rfl⟩,rfl,rfl,⟨amK,rfl⟩,rfl,rfl,trivial⟩,rfl,Imp.eq ?_⟩)
          rfl
        · simp [t2] at e2
      rw [if_neg t2]
      refine awp_cond amQ (fun e2 => ?_) (fun e2 => ?_)
      · exact (t2 (of_decide_eq_true e2)).elim
      refine amGo ?_
      (refine awp_frz 5 rfl ?_;simp only [xz,simprocAttr])
      (refine amB ?_;refine awp_anyG 0 [(6,[0]),(9,[1])] [0,1] [(6,[1]),(9,[0])] ?_;refine amNG ?_)
      refine amGo ?_
      (simp only [xec,simprocAttr];refine ⟨[_,_,_,_,_,_],⟨⟨amK,rfl⟩,rfl,rfl,⟨amK,rfl⟩,rfl,rfl,trivial⟩,rfl,Imp.eq ?_⟩)
      rfl
  obtain ⟨vs,h⟩:=hcase
  exact ⟨m,s,a,x,(p,q),rs,vs,h⟩
end Go.Proofs.YtlhdeofkhajigaaGreat
