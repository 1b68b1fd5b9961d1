/- Regions in whatever order, some of whose calls take an own slice and hand back an own slice in its place, told ahead. Conditions: those that each names. -/
import Derived.Test.YtjblpcgkffhgfaaGreatKitG
set_option linter.all false
set_option linter.unusedSimpArgs false
set_option linter.unusedVariables false
namespace Go.Proofs.YtjblpcgkffhgfaaGreat
namespace Am
open Go Go.RowKit

/-- what is told of operation k -/
def hintJ:List (Nat×Nat×Ob)→Nat→Option (Nat×Ob)
  | [],_=>none
  | (j,x)::hs,k=>bif Nat.beq j k then some x else hintJ hs k
section
variable (P:Program) (cf:Cfg) (N:Nat) (ops:Array Oper) (S:List (Nat×List Nat)) (D:List Nat) (X:List (Nat×List Nat)) (n0 n:Nat) (hs:List (Nat×Nat×Ob))
/-- a call to which the own slice i is handed over, and that hands back another one -/
def gTake (T:Tm) (H:List Ob) (c:Call) (i:Nat) (p':Ob):Prop:=∃ f xs args p,calleeOf T c=some (true,f,xs)∧(c.args.toList.all fun x=>(look T x).1)=true∧(c.args.toList.map fun x=>(look T x).2)++xs.map (fun y=>AV.lf y)=args.map (AV.map (Lf.ren (renN [i] n))) ∧
  H[i]? = some p∧(obLs p).all Lf.isB=true∧(obLs p').all Lf.isB=true∧DoesH P f args [true] [p] (.lf (.own 1)) [.gone,p']
/-- one operation: as is told, or as it is -/
def gToldJ (k:Nat) (o:Oper) (T:Tm) (H:List Ob) (K:Bool×AV→List (Nat×Ob)→Prop):Option (Nat×Ob)→Op→Prop
  | some (i,p'),.call c=>o.guard=none∧gTake P n T H c i p'∧gChk S D X n k [i]=true∧gNew S D X n0 n k H fun s=>i≠s∧K (true,.lf (.own s)) [(i,.gone),(s,p')]
  | _,_=>gStep P cf ops S D X n0 n k o T H K
def dGJ (Q:Tm→List Ob→Prop):Nat→List Oper→Tm→List Ob→Prop
  | _,[],T,H=>Q T H
  | k,o::l,T,H=>o.dst.all (Nat.blt · N)=true∧gToldJ P cf ops S D X n0 n k o T H (fun v m=>nmsB S D X n0 k v.2.leaves=true∧(m.all fun p=>nmsB S D X n0 k (obLs p.2))=true∧dGJ Q (k+1) l (T.put o.dst v) (setAll H m)) (hintJ hs k) o.op
end
section
variable {P:Program} {cf:Cfg} {b:Base} {N:Nat} {ops:Array Oper} {S:List (Nat×List Nat)} {D:List Nat} {X:List (Nat×List Nat)} {n0 n:Nat} {hs:List (Nat×Nat×Ob)} {H:List Ob} {T:Tm} {o:Oper}
theorem gTake_ok {c:Call} {i:Nat} {p':Ob} (hd:o.dst.all (Nat.blt · N)=true) (hg:o.guard=none) (hl:H.length=n) (hi:i<n) (ho:o.op = .call c) (h:gTake P n T H c i p'):memOK P cf b N H ((H.set i .gone)++[p']) o T (true,.lf (.own H.length)):=by
  obtain ⟨f,xs,args,p,h1,h2,h3,h4,h5,h6,h8⟩:=h
  have hp:∀ {q:Ob} {g:Lf→Lf},(obLs q).all Lf.isB=true→(∀ x,g (.b x) = .b x)→q.map g=q:=fun hq hg'=>Ob.map_eq fun y hy=>isB_map hg' (List.all_eq_true.1 hq y hy)
  have hlt:p.lt [p].length:=by
    cases p with
    | box cs=>exact fun y hy=>isB_lt (List.all_eq_true.1 h5 y hy) _
    | hole e es c k x=>exact isB_lt (List.all_eq_true.1 h5 x (by simp [obLs])) _
    | cut e e2 c k x=>exact isB_lt (List.all_eq_true.1 h5 x (by simp [obLs])) _
    | _=>trivial
  intro T' hT'
  rw [ho] at hT'
  have hT:∀ x∈c.args.toList,look T' x=look T x:=fun x hx=>hT' x (by simp only [Op.operands,Call.operands];first | (simp only [Array.mem_append,Array.mem_toList_iff];exact .inr (by simpa using hx)) | (cases c.callee<;>simp<;>first | exact .inr (by simpa using hx) | exact by simpa using hx))
  have hcal:calleeOf T' c=calleeOf T c:=by
    unfold calleeOf
    cases hc:c.callee with
    | value x=>simp only;rw [hT' x (by simp [Op.operands,Call.operands,hc])]
    | _=>rfl
  refine ⟨hg,fun φ β M a w K Q hR hK => ?_⟩
  have hCA:CallA P b.fx ⟨T',H⟩ c [i] (.lf (.own 1)) [.gone,p'] []:=⟨⟨f,xs,args,[true],[p],by rw [hcal];exact h1,fun x hx=>by rw [hT x hx];exact List.all_eq_true.1 h2 x hx,by
    show (c.args.toList.map fun x=>(look T' x).2)++_=args.map (AV.map (Lf.ren (renN [i] H.length)))
    rw [hl,← h3]
    congr 1
    exact List.map_congr_left fun x hx=>by rw [hT x hx],⟨by rw [hp h5 (fun _=>rfl)];exact h4,trivial⟩,fun q hq=>by simp at hq;subst hq;exact hlt,h8,rfl⟩,by simp,fun s hs=>by simp at hs;subst hs;show s<H.length;omega,fun s hs=>by simp at hs⟩
  refine co_callA hR hd ho hCA fun φ' β' M' a' w' hR'=>hK φ' β' M' a' w' ?_
  have e1:T'.map (Lf.killL [])=T':=by
    rw [show Lf.killL []=id from funext killL_nil]
    exact Tm.map_id T'
  have e2:H.map (Ob.map (Lf.killL []))=H:=by
    rw [show Lf.killL []=id from funext killL_nil,show Ob.map id=id from funext Ob.map_id,List.map_id]
  have e3:plug H [i] [.gone,p']=H.set i .gone++[p']:=by simp [plug]
  have e4:(AV.lf (.own 1)).map (Lf.ren (renN [i] H.length)) = .lf (.own H.length):=by simp [AV.map,TV.map,Lf.ren,renN]
  rw [e1,e2,e4,List.map_cons,List.map_cons,List.map_nil,hp h6 (fun _=>rfl)] at hR'
  rw [show (Ob.gone).map (Lf.ren (renN [i] H.length)) = .gone from rfl,e3] at hR'
  exact hR'
theorem gTake_agree {W:List Nat} {H':List Ob} {c:Call} {i:Nat} {p':Ob} (ha:agree n W H H') (hi:i<n) (hw:i ∉ W) (h:gTake P n T H c i p'):gTake P n T H' c i p':=by
  obtain ⟨f,xs,args,p,h1,h2,h3,h4,h5⟩:=h
  exact ⟨f,xs,args,p,h1,h2,h3,(agree_at ha hi hw).trans h4,h5⟩
theorem gToldJ_ok {k:Nat} {K:Bool×AV→List (Nat×Ob)→Prop} {x:Option (Nat×Ob)} (hd:o.dst.all (Nat.blt · N)=true) (hfx:b.fx.length≤n0) (hl:H.length=n) (h:gToldJ P cf ops S D X n0 n k o T H K x o.op):∃ v m,K v m∧gOK P cf b N ops S D X n0 n k o T H v m:=by
  cases x with
  | none=>exact gStep_ok hd hfx hl h
  | some x =>
    obtain ⟨i,p'⟩:=x
    generalize ho:o.op=op at h
    cases op with
    | call c =>
      obtain ⟨hg,hc,h1,h⟩:=h
      obtain ⟨k1,k2,k3⟩:=gChk_spec h1 i (by simp)
      unfold gNew at h
      split at h
      · rename_i s _ hs
        obtain ⟨g1,g2,g3,g4,hne,h⟩:=h
        obtain ⟨k4,k5,k6⟩:=gChk_spec g3 s (by simp)
        refine ⟨_,_,h,[s],fun q hq=>by
          simp at hq
          rcases hq with rfl | rfl
          · exact ⟨k1,k2,k3⟩
          · exact ⟨k4,k5,k6⟩,fun s' hs'=>by simp at hs';subst hs';exact ⟨Nat.le_of_ble_eq_true g1,k6,k5,fresh_spec g2⟩,.inr fun H' hl' ha => ?_⟩
        have h6:(H'.set i .gone)[s]? = some .gone:=by rw [List.getElem?_set,if_neg hne];exact (agree_at ha k4 k5).trans g4
        have hc':=hc
        obtain ⟨_,_,_,_,_,_,_,_,_,hpB,_⟩:=hc'
        have:=memG_slot (P:=P) (cf:=cf) (b:=b) (N:=N) (gTake_ok hd hg hl' k1 ho (gTake_agree ha k1 k2 hc)) (by simp) h6 (by have:=Nat.le_of_ble_eq_true g1;omega) fun r q hq=>by
          rw [List.getElem?_set] at hq
          split at hq
          · split at hq
            · cases hq;exact .inl rfl
            · cases hq
          · exact .inr hq
        have e:p'.map (Lf.mv s H'.length)=p':=Ob.map_eq fun y hy=>isB_map (fun _=>rfl) (List.all_eq_true.1 hpB y hy)
        rw [mv_own,e] at this
        exact this
      · exact h.elim
    | _=>exact gStep_ok hd hfx hl h
theorem dGJ_run {H0:List Ob} {Q:Tm→List Ob→Prop} (hfx:b.fx.length≤n0) (hn:H0.length=n):∀ (l:List Oper) (k:Nat) (T:Tm) (mods0:List (List (Nat×Ob))),mods0.length=k→dGJ P cf N ops S D X n0 n hs Q k l T (foldS 0 mods0 (fun _=>true) H0) →
    ∃ ms:List (List (Nat×Ob)),ms.length=l.length∧(∀ (q:Nat) m,ms[q]? = some m→∀ p∈m,p.1∈slotsOf S (k+q))∧dWI (okG P cf b N ops S D X n0 n H0 (mods0++ms)) (fun T=>Q T (foldS 0 (mods0++ms) (fun _=>true) H0)) k l T
  | [],k,T,mods0,hk,h=>⟨[],rfl,fun q m hq=>by simp at hq,by rw [List.append_nil];exact h⟩
  | o::l,k,T,mods0,hk,h=>by
    obtain ⟨hd,h⟩:=h
    obtain ⟨v,m,⟨hn1,hn2,h⟩,fr,g1,g2,g3⟩:=gToldJ_ok (P:=P) (b:=b) (N:=N) hd hfx (by rw [foldS_len,hn]) h
    have e:setAll (foldS 0 mods0 (fun _=>true) H0) m=foldS 0 (mods0++[m]) (fun _=>true) H0:=by rw [foldS_app];rfl
    rw [e] at h
    obtain ⟨ms,h1,h2,h3⟩:=dGJ_run hfx hn l (k+1) _ (mods0++[m]) (by simp [hk]) h
    have e2:mods0++[m]++ms=mods0++m::ms:=by simp
    rw [e2] at h3
    refine ⟨m::ms,by simp [h1],fun q m' hq p hp => ?_,v,⟨m,fr,by rw [List.getElem?_append_right (by omega),hk,Nat.sub_self];rfl,g1,g2,hn1,fun p hp=>List.all_eq_true.1 hn2 p hp,?_⟩,h3⟩
    · cases q with
      | zero =>
        simp only [List.getElem?_cons_zero,Option.some.injEq] at hq
        subst hq
        exact (g1 p hp).2.2
      | succ q =>
        have:=h2 q m' (by simpa using hq) p hp
        rwa [show k+1+q=k+(q+1) by omega] at this
    · have e3:(mods0++m::ms).take k=mods0:=by rw [← hk,List.take_left]
      rw [e3]
      exact g3
/-- a region in whatever order, of whose calls hs tells -/
theorem awp_anyGJ {id:Nat} {l:List Oper} {Y:St} {Q:Exit→St→Prop} (R:Nat) (S:List (Nat×List Nat)) (D:List Nat) (W:List (Nat×List Nat)) (hs:List (Nat×Nat×Ob))
    (h:dGJ P cf N l.toArray S D W Y.H.length (Y.H.length+R) hs (fun T H=>Q .normal ⟨T,H⟩) 0 l Y.T (Y.H++gones R)) (hm:P.follows .mixedOrders=true:=by kernel_rfl) (hB:Region.lexB .any l.toArray=true:=by kernel_rfl) (hc:confB l.toArray S D W=true:=by kernel_rfl) (hb:backB 0 l=true:=by kernel_rfl):awp P cf b N (.region id l.toArray true) Q Y:=fun a w ⟨φ,β,M,hR⟩=>by
  simp only [Region.lexB,Bool.and_eq_true] at hB
  obtain ⟨φ',β',hR'⟩:=RA.reserve (φ:=φ) R hR
  have hn:(Y.H++gones R).length=Y.H.length+R:=by rw [List.length_append,gones_len]
  obtain ⟨ms,h1,h2,h3⟩:=dGJ_run (b:=b) hR.fix.1 hn l 0 Y.T [] rfl h
  simp only [List.nil_append,Nat.zero_add] at h2 h3
  have hrep:∀ j:Nat,(Array.replicate l.toArray.size false).getD j false=false:=fun j=>by
    rw [Array.getD_eq_getD_getElem?]
    rcases Nat.lt_or_ge j l.toArray.size with h' | h'
    · simp at h'
      simp [h']
    · simp at h'
      simp [h']
  have hH0:foldS 0 ms (fun j=>(Array.replicate l.toArray.size false).getD j false) (Y.H++gones R)=Y.H++gones R:=foldS_none ms 0 _ _ fun q _=>hrep _
  refine wp_region_any hm ?_
  refine wpAny_of_G (P:=P) (cf:=cf) (b:=b) (N:=N) (S:=S) (D:=D) (X:=W) (n0:=Y.H.length) (n:=Y.H.length+R) (H0:=Y.H++gones R) (mods:=ms) (Qf:=fun T=>Q .normal ⟨T,foldS 0 ms (fun _=>true) (Y.H++gones R)⟩) (by simpa using h1) hn hc (by simpa using hb) h2 (fun φ β M T a w hR hQ=>⟨_,hQ,φ,β,M,hR⟩) _ _ φ' β' M Y.T a _ (by simp) (fun i o _ hi=>by rw [hrep i] at hi;cases hi) (by rw [hH0];exact hR'.draw) (fun s hs _ => ?_) ?_
  · rw [hH0]
    refine ⟨fun t=>lt_free hs (hR.lt t),fun i o hi => ?_⟩
    rcases Nat.lt_or_ge i Y.H.length with h' | h'
    · rw [List.getElem?_append_left h'] at hi
      exact ob_free hs (hR.hi.wf i o hi)
    · rw [List.getElem?_append_right h'] at hi
      have:=gones_mem (List.mem_of_getElem? hi)
      subst this
      intro y hy
      simp [obLs] at hy
  · have:=dAnyI_lex (ops:=l.toArray) (ok:=okG P cf b N l.toArray S D W Y.H.length (Y.H.length+R) (Y.H++gones R) ms) okG_cong (Q:=fun listed T=>(∀ j,j<l.toArray.size→listed.getD j false=true)∧Q .normal ⟨T,foldS 0 ms (fun _=>true) (Y.H++gones R)⟩) (Q0:=fun T=>Q .normal ⟨T,foldS 0 ms (fun _=>true) (Y.H++gones R)⟩) (fun listed T h5 h6=>⟨h5,h6⟩) l 0 (Array.replicate l.toArray.size false) Y.T (by simp) (by simp) (fun j hj=>by omega) (by simpa using hB.2) h3
    simpa using this
end
theorem gToldJ_some (P:Program) (cf:Cfg) (ops:Array Oper) (S:List (Nat×List Nat)) (D:List Nat) (X:List (Nat×List Nat)) (n0 n k:Nat) (o:Oper) (T:Tm) (H:List Ob) (K:Bool×AV→List (Nat×Ob)→Prop) (i:Nat) (p':Ob) (c:Call):gToldJ P cf ops S D X n0 n k o T H K (some (i,p')) (.call c)=(o.guard=none∧gTake P n T H c i p'∧gChk S D X n k [i]=true∧gNew S D X n0 n k H fun s=>i≠s∧K (true,.lf (.own s)) [(i,.gone),(s,p')]):=rfl
theorem gToldJ_none (P:Program) (cf:Cfg) (ops:Array Oper) (S:List (Nat×List Nat)) (D:List Nat) (X:List (Nat×List Nat)) (n0 n k:Nat) (o:Oper) (T:Tm) (H:List Ob) (K:Bool×AV→List (Nat×Ob)→Prop) (p:Op):gToldJ P cf ops S D X n0 n k o T H K none p=gStep P cf ops S D X n0 n k o T H K:=rfl
theorem callG_t {P:Program} {n i:Nat} {T:Tm} {H:List Ob} {c:Call} {f:Nat} {xs:List Lf} {args:List AV} {p p':Ob} (h:DoesH P f args [true] [p] (.lf (.own 1)) [.gone,p']) (h1:calleeOf T c=some (true,f,xs)) (h2:(c.args.toList.all fun x=>(look T x).1)=true) (h3:(c.args.toList.map fun x=>(look T x).2)++xs.map (fun y=>AV.lf y)=args.map (AV.map (Lf.ren (renN [i] n)))) (h4:H[i]? = some p) (h5:(obLs p).all Lf.isB=true) (h6:(obLs p').all Lf.isB=true):gTake P n T H c i p':=⟨f,xs,args,p,h1,h2,h3,h4,h5,h6,h⟩
theorem xgj:type_of% (⟨@dGJ.eq_1,@dGJ.eq_2,@hintJ.eq_1,@hintJ.eq_2,@gToldJ_some,@gToldJ_none⟩:_∧_∧_∧_∧_∧_):=⟨@dGJ.eq_1,@dGJ.eq_2,@hintJ.eq_1,@hintJ.eq_2,@gToldJ_some,@gToldJ_none⟩
theorem amNJ {P Q:Prop} (q:Q) (h:Hold Q→P:=by intro h;((simp (maxSteps:=3000000) only [xg,xgj,xr,simprocAttr];repeat (guard_target =~ _∧_;refine ⟨by first | (guard_target =~ _=_;rfl) | (guard_target =~ (_:Int)≤_;omega) | (first | with_reducible assumption | (guard_target =~ (_:Int)≤_;omega) | (guard_target =~ (_:Int)<_;omega) | (guard_target =~ (_:Nat)<_;omega) | (guard_target =~ (_:Nat)≤_;omega) | (guard_target =~ (_:Int)=_;omega) | (unfold I64;omega) | trivial | omega | (simp<;>omega) | (intros;omega)),?_⟩)));exact h.out):P:=h ⟨q⟩
end Am
end Go.Proofs.YtjblpcgkffhgfaaGreat
/- Regions in whatever order whose last operation waits for all others. Conditions: those that each names. -/
set_option linter.all false
set_option linter.unusedSimpArgs false
set_option linter.unusedVariables false
namespace Go.Proofs.YtjblpcgkffhgfaaGreat
namespace Am
open Go Go.RowKit

theorem wp_Q {P:Program} {o:Oper} {a:Act} {w:World} {K:Act→World→Prop} {Q Q':Exit→Act→World→Prop} (h:∀ e a w,e ≠ .normal→Q' e a w→Q e a w) (hh:o.wp P a w K Q'):o.wp P a w K Q:=by
  unfold Oper.wp at *
  generalize (execOp a.eval o).run P w=r at *
  cases r with
  | ok n w' =>
    cases n<;>simp only [Oper.upon] at hh ⊢ <;>
      first
        | exact hh
        | exact h _ _ _ (by simp) hh
        | exact Calls.mono hh (fun e w'' he=>by cases e<;>first | exact he | exact h _ _ _ (by simp) he | exact he.imp fun _ h1=>h1.imp fun _ h2=>h _ _ _ (by simp) h2)
        | exact Rows.mono hh (fun _ _ he=>by first | exact he | exact h _ _ _ (by simp) he)
  | halt x w'=>cases x<;>simp only [Oper.upon] at hh ⊢<;>first | exact hh | exact h _ _ _ (by simp) hh
def gdB (n:Nat) (l:List Oper):Bool:=l.all fun o=>match o.guard with
  | none=>true
  | some (g,_)=>Nat.blt g n
def lastB (l:List Oper) (o:Oper):Bool:=(fun A=>(List.range l.length).all fun j=>Nat.testBit (A.getD l.length 0) j) (ancM (l++[o]) [])
section
variable {P:Program} {l:List Oper} {o:Oper} {Q Q':Exit→Act→World→Prop}
theorem app_lt {i:Nat} (h:i<l.length):(l++[o]).toArray[i]? = l.toArray[i]? := by
  rw [List.getElem?_toArray,List.getElem?_toArray,List.getElem?_append_left h]
theorem app_at:(l++[o]).toArray[l.length]? = some o:=by simp
theorem push_lt {listed:Array Bool} {i:Nat} {d:Bool} (h:i<listed.size):(listed.push false).getD i d=listed.getD i d:=by
  simp only [Array.getD_eq_getD_getElem?,Array.getElem?_push]
  rw [if_neg (by omega)]
theorem push_at {listed:Array Bool} {d:Bool}:(listed.push false).getD listed.size d=false:=by
  simp [Array.getD_eq_getD_getElem?,Array.getElem?_push]
theorem getD_lt {listed:Array Bool} {i:Nat} (h:i<listed.size):listed.getD i true=listed.getD i false:=by
  simp [Array.getD_eq_getD_getElem?,h]
theorem ready_nil {listed:Array Bool} (hs:listed.size=l.length) (hb:backB 0 l=true) (h:Region.ready .any l.toArray listed=[]):∀ j,j<l.length→listed.getD j false=true:=fun j=>by
  induction j using Nat.strongRecOn with
  | ind j ih =>
    intro hj
    cases hc:listed.getD j false with
    | true=>rfl
    | false =>
      have:j∈Region.ready .any l.toArray listed:=mem_ready.2 ⟨by rw [getD_lt (by omega)];exact hc,l[j],by simp [hj],fun e he hbe=>by
        have:=back_spec hb (q:=j) (o:=l[j]) (by simp [hj]) he hbe
        exact ih e.on (by omega) (by omega)⟩
      rw [h] at this
      cases this
theorem last_step {listed:Array Bool} {a:Act} {w:World} (hg:o.guard=none) (hgl:gdB l.length l=true) (hb:backB 0 (l++[o])=true) (hlast:lastB l o=true) (hQn:∀ a w,Q' .normal a w→wpList P (l++[o]).toArray Q [o] a w) (hQe:∀ e a w,e ≠ .normal→Q' e a w→Q e a w)
    (hs:listed.size=l.length) (hsh:shut (l++[o]).toArray (listed.push false)) (K KA:Nat→Act→World→Prop) (hK:∀ i,i∈Region.ready .any l.toArray listed→∀ a w,KA i a w→K i a w) (hKn:(∀ j,j<l.length→listed.getD j false=true)→∀ a w,Q .normal a w→K l.length a w)
    (h0:Region.ready .any l.toArray listed=[]→Q' .normal a w) (h1:∀ i∈Region.ready .any l.toArray listed,wpOp P l.toArray Q' i (KA i) a w) :
    (Region.ready .any (l++[o]).toArray (listed.push false)=[]→Q .normal a w)∧∀ i∈Region.ready .any (l++[o]).toArray (listed.push false),wpOp P (l++[o]).toArray Q i (K i) a w:=by
  have hbl:backB 0 l=true:=by
    have:∀ (l:List Oper) (k:Nat),backB k (l++[o])=true→backB k l=true:=fun l=>by
      induction l with
      | nil=>intro k _;rfl
      | cons x l ih=>intro k h;simp only [List.cons_append,backB,Bool.and_eq_true] at h ⊢;exact ⟨h.1,ih _ h.2⟩
    exact this l 0 hb
  have hbo:∀ e∈o.after,Region.binds .any e=true→e.on<l.length:=fun e he hbe=>by
    have:=back_spec hb (q:=l.length) (o:=o) (by simp) he hbe
    omega
  have hpn:(listed.push false).getD l.length true=false:=by rw [← hs];exact push_at
  have hin:∀ i,i∈Region.ready .any l.toArray listed→i<l.length:=fun i hi=>by
    obtain ⟨_,o',ho',_⟩:=mem_ready.1 hi
    simpa using (Array.getElem?_eq_some_iff.1 ho').1
  have hup:∀ i,i∈Region.ready .any l.toArray listed→i∈Region.ready .any (l++[o]).toArray (listed.push false):=fun i hi=>by
    have hil:=hin i hi
    obtain ⟨k1,o',k2,k3⟩:=mem_ready.1 hi
    refine mem_ready.2 ⟨by rw [push_lt (by omega)];exact k1,o',by rw [app_lt hil];exact k2,fun e he hbe => ?_⟩
    have h2:=back_spec hbl (q:=i) (o:=o') (by simpa using k2) he hbe
    rw [push_lt (by omega)]
    exact k3 e he hbe
  have hdn:∀ i,i<l.length→i∈Region.ready .any (l++[o]).toArray (listed.push false)→i∈Region.ready .any l.toArray listed:=fun i hil hi=>by
    obtain ⟨k1,o',k2,k3⟩:=mem_ready.1 hi
    rw [app_lt hil] at k2
    refine mem_ready.2 ⟨by rw [push_lt (by omega)] at k1;exact k1,o',k2,fun e he hbe => ?_⟩
    have h2:=back_spec hbl (q:=i) (o:=o') (by simpa using k2) he hbe
    have h3:=k3 e he hbe
    rw [push_lt (by omega)] at h3
    exact h3
  have hnr:(∀ j,j<l.length→listed.getD j false=true)→l.length∈Region.ready .any (l++[o]).toArray (listed.push false):=fun hall =>
    mem_ready.2 ⟨hpn,o,app_at,fun e he hbe=>by have:=hbo e he hbe;rw [push_lt (by omega)];exact hall _ this⟩
  refine ⟨fun hnil => ?_,fun i hi => ?_⟩
  · have h2:Region.ready .any l.toArray listed=[]:=by
      cases hr:Region.ready .any l.toArray listed with
      | nil=>rfl
      | cons x r =>
        have:=hup x (by rw [hr];simp)
        rw [hnil] at this
        cases this
    have:=hnr (ready_nil hs hbl h2)
    rw [hnil] at this
    cases this
  · rcases Nat.lt_or_ge i l.length with hil | hge
    · have hi':=hdn i hil hi
      have h2:=h1 i hi'
      unfold wpOp at h2 ⊢
      rw [app_lt hil]
      have ho:l.toArray[i]? = some l[i]:=by simp [hil]
      rw [ho] at h2 ⊢
      simp only at h2 ⊢
      have hw:Region.wanted l[i] (yielded (l++[o]).toArray a.tmps)=Region.wanted l[i] (yielded l.toArray a.tmps):=by
        have h3:=List.all_eq_true.1 hgl l[i] (List.getElem_mem hil)
        unfold Region.wanted
        cases hgd:l[i].guard with
        | none=>rfl
        | some p =>
          obtain ⟨g,b⟩:=p
          rw [hgd] at h3
          simp only at h3 ⊢
          have hgl':g<l.length:=by simpa using h3
          unfold yielded
          rw [app_lt hgl']
      rw [hw]
      split
      · rename_i hwt
        rw [if_pos hwt] at h2
        rcases h2 with h2 | ⟨h2,h3⟩
        · exact .inl (Oper.wp_mono (fun a w hk=>hK i hi' a w hk) (wp_Q hQe h2))
        · exact .inr ⟨h2,h3.imp fun _ h4=>h4.imp fun _ h5=>hQe _ _ _ (by simp) h5⟩
      · rename_i hwt
        rw [if_neg hwt] at h2
        exact hK i hi' _ _ h2
    · obtain ⟨k1,o',k2,k3⟩:=mem_ready.1 hi
      have hlt:i<l.length+1:=by simpa using (Array.getElem?_eq_some_iff.1 k2).1
      obtain rfl:i=l.length:=by omega
      rw [app_at] at k2
      cases k2
      have hall:∀ j,j<l.length→listed.getD j false=true:=fun j hj=>by
        have h2:((ancM (l++[o]).toArray.toList []).getD l.length 0).testBit j=true:=by
          have:=List.all_eq_true.1 hlast j (by simpa using hj)
          simpa using this
        have h3:=anc_shut hsh l.length o j app_at k3 h2
        rwa [push_lt (by omega)] at h3
      have hnil:Region.ready .any l.toArray listed=[]:=by
        cases hr:Region.ready .any l.toArray listed with
        | nil=>rfl
        | cons x r =>
          have h2:=hin x (by rw [hr];simp)
          obtain ⟨h3,_⟩:=mem_ready.1 (show x∈Region.ready .any l.toArray listed by rw [hr];simp)
          rw [getD_lt (by omega),hall x h2] at h3
          cases h3
      have h2:=hQn a w (h0 hnil)
      unfold wpList at h2
      unfold wpOp
      rw [app_at]
      simp only
      have hw:Region.wanted o (yielded (l++[o]).toArray a.tmps)=true:=by simp [Region.wanted,hg]
      rw [if_pos hw] at h2 ⊢
      rcases h2 with h2 | h2
      · exact .inl (Oper.wp_mono (fun a w hk=>hKn hall a w hk) h2)
      · exact .inr h2
theorem push_set {listed:Array Bool} {i:Nat} (h:i<listed.size):(listed.push false).setIfInBounds i true=(listed.setIfInBounds i true).push false:=by
  apply Array.ext'
  simp only [Array.toList_setIfInBounds,Array.toList_push]
  rw [List.set_append_left _ _ (by simpa using h)]
theorem all_done {listed:Array Bool} (hs:listed.size=l.length) (h:∀ j,j<l.length→listed.getD j false=true):Region.ready .any (l++[o]).toArray ((listed.push false).setIfInBounds l.length true)=[]:=by
  cases hr:Region.ready .any (l++[o]).toArray ((listed.push false).setIfInBounds l.length true) with
  | nil=>rfl
  | cons x r =>
    obtain ⟨h3,o',h4,_⟩:=mem_ready.1 (show x∈Region.ready .any (l++[o]).toArray ((listed.push false).setIfInBounds l.length true) by rw [hr];simp)
    have hx:x<l.length+1:=by simpa using (Array.getElem?_eq_some_iff.1 h4).1
    exfalso
    by_cases e:x=l.length
    · subst e
      rw [Array.getD_eq_getD_getElem?,Array.getElem?_setIfInBounds_self_of_lt (by simp;omega)] at h3
      simp at h3
    · have h5:=h x (by omega)
      rw [Array.getD_eq_getD_getElem?,Array.getElem?_setIfInBounds_ne (by omega),← Array.getD_eq_getD_getElem?,push_lt (by omega),getD_lt (by omega),h5] at h3
      cases h3
theorem wpAny_last (hg:o.guard=none) (hgl:gdB l.length l=true) (hb:backB 0 (l++[o])=true) (hlast:lastB l o=true) (hQn:∀ a w,Q' .normal a w→wpList P (l++[o]).toArray Q [o] a w) (hQe:∀ e a w,e ≠ .normal→Q' e a w→Q e a w) :
    ∀ (fuel:Nat) (listed:Array Bool) (a:Act) (w:World),listed.size=l.length→shut (l++[o]).toArray (listed.push false)→wpAny P .any l.toArray Q' fuel listed a w→wpAny P .any (l++[o]).toArray Q (fuel+1) (listed.push false) a w:=by
  intro fuel
  induction fuel with
  | zero =>
    intro listed a w hsz hsh h
    obtain ⟨h0,h1⟩:=h
    refine last_step hg hgl hb hlast hQn hQe hsz hsh (fun i=>wpAny P .any (l++[o]).toArray Q 0 ((listed.push false).setIfInBounds i true)) (fun _ _ _=>False) (fun i hi=>by rw [h0] at hi;cases hi) (fun hall a w hq=>⟨all_done hsz hall,hq⟩) (fun _=>h1) (fun i hi=>by rw [h0] at hi;cases hi)
  | succ fuel ih =>
    intro listed a w hsz hsh h
    obtain ⟨h0,h1⟩:=h
    refine last_step hg hgl hb hlast hQn hQe hsz hsh (fun i=>wpAny P .any (l++[o]).toArray Q (fuel+1) ((listed.push false).setIfInBounds i true)) (fun i=>wpAny P .any l.toArray Q' fuel (listed.setIfInBounds i true)) (fun i hi a w hk => ?_) (fun hall a w hq=>⟨fun _=>hq,fun i hi=>by rw [all_done hsz hall] at hi;cases hi⟩) h0 h1
    obtain ⟨_,o',ho',_⟩:=mem_ready.1 hi
    have hil:i<l.length:=by simpa using (Array.getElem?_eq_some_iff.1 ho').1
    show wpAny P .any (l++[o]).toArray Q (fuel+1) ((listed.push false).setIfInBounds i true) a w
    have hbl:backB 0 l=true:=by
      have:∀ (l:List Oper) (k:Nat),backB k (l++[o])=true→backB k l=true:=fun l=>by
        induction l with
        | nil=>intro k _;rfl
        | cons x l ih=>intro k h;simp only [List.cons_append,backB,Bool.and_eq_true] at h ⊢;exact ⟨h.1,ih _ h.2⟩
      exact this l 0 hb
    have hup:i∈Region.ready .any (l++[o]).toArray (listed.push false):=by
      obtain ⟨k1,o',k2,k3⟩:=mem_ready.1 hi
      refine mem_ready.2 ⟨by rw [push_lt (by omega)];exact k1,o',by rw [app_lt hil];exact k2,fun e he hbe => ?_⟩
      have h2:=back_spec hbl (q:=i) (o:=o') (by simpa using k2) he hbe
      rw [push_lt (by omega)]
      exact k3 e he hbe
    rw [push_set (by omega)]
    refine ih _ a w (by simp [hsz]) ?_ hk
    rw [← push_set (by omega)]
    exact shut_set hup hsh
end
/-- a region in whatever order, whose last operation waits for all others -/
theorem awp_anyGL {P:Program} {cf:Cfg} {b:Base} {N id:Nat} {L:List Oper} {o:Oper} {Y:St} {Q:Exit→St→Prop} (nl:Nat) (Rn:Nat) (S:List (Nat×List Nat)) (D:List Nat) (W:List (Nat×List Nat)) (hL:L.drop nl=[o])
    (h:dG P cf N (L.take nl).toArray S D W Y.H.length (Y.H.length+Rn) (fun T H=>sW P cf b.fx N L.toArray (fun X'=>Q .normal X') [o] ⟨T,H⟩) 0 (L.take nl) Y.T (Y.H++gones Rn)) (hm:P.follows .mixedOrders=true:=by kernel_rfl) (hB:Region.lexB .any (L.take nl).toArray=true:=by kernel_rfl) (hc:confB (L.take nl).toArray S D W=true:=by kernel_rfl)
    (hb:backB 0 L=true:=by kernel_rfl) (hg:o.guard=none:=by rfl) (hgl:gdB (L.take nl).length (L.take nl)=true:=by kernel_rfl) (hlast:lastB (L.take nl) o=true:=by kernel_rfl):awp P cf b N (.region id L.toArray true) Q Y:=fun a w ⟨φ,β,M,hR⟩=>by
  obtain ⟨l,hl⟩:∃ l,l=L.take nl:=⟨_,rfl⟩
  have hLl:L=l++[o]:=by rw [hl,← hL,List.take_append_drop]
  rw [← hl] at h hB hc hgl hlast
  subst hLl
  clear hl hL
  have hbl:backB 0 l=true:=by
    have:∀ (l:List Oper) (k:Nat),backB k (l++[o])=true→backB k l=true:=fun l=>by
      induction l with
      | nil=>intro k _;rfl
      | cons x l ih=>intro k h;simp only [List.cons_append,backB,Bool.and_eq_true] at h ⊢;exact ⟨h.1,ih _ h.2⟩
    exact this l 0 hb
  simp only [Region.lexB,Bool.and_eq_true] at hB
  obtain ⟨φ',β',hR'⟩:=RA.reserve (φ:=φ) Rn hR
  have hn:(Y.H++gones Rn).length=Y.H.length+Rn:=by rw [List.length_append,gones_len]
  obtain ⟨ms,h1,h2,h3⟩:=dG_run (b:=b) hR.fix.1 hn l 0 Y.T [] rfl h
  simp only [List.nil_append,Nat.zero_add] at h2 h3
  have hrep:∀ j:Nat,(Array.replicate l.toArray.size false).getD j false=false:=fun j=>by
    rw [Array.getD_eq_getD_getElem?]
    rcases Nat.lt_or_ge j l.toArray.size with h' | h'
    · simp at h'
      simp [h']
    · simp at h'
      simp [h']
  have hH0:foldS 0 ms (fun j=>(Array.replicate l.toArray.size false).getD j false) (Y.H++gones Rn)=Y.H++gones Rn:=foldS_none ms 0 _ _ fun q _=>hrep _
  refine wp_region_any hm ?_
  have hsz:(l++[o]).toArray.size=l.toArray.size+1:=by simp
  have hpush:Array.replicate (l++[o]).toArray.size false=(Array.replicate l.toArray.size false).push false:=by rw [hsz,Array.replicate_succ]
  rw [hpush,hsz]
  refine wpAny_last (Q':=fun e a w=>(e = .normal∧∃ T H,sW P cf b.fx N (l++[o]).toArray (fun X'=>Q .normal X') [o] ⟨T,H⟩∧∃ φ β M,RA P cf b N φ β M ⟨T,H⟩ a w)∨(e ≠ .normal∧∃ X',Q e X'∧R P cf b N X' a w)) hg hgl hb hlast (fun a w hq => ?_) (fun e a w he hq => ?_) _ _ _ _ (by simp) (fun i o' ho' hi => ?_) ?_
  · rcases hq with ⟨-,T,H,hs,φ,β,M,hR⟩ | ⟨he,-⟩
    · exact wpList_of_sW (K:=fun X'=>Q .normal X') (fun φ' β' M' X' a' w' hQ hR'=>⟨_,hQ,φ',β',M',hR'⟩) [o] φ β M _ a w hR hs
    · exact absurd rfl he
  · rcases hq with ⟨he',-⟩ | ⟨-,hq⟩
    · exact absurd he' he
    · exact hq
  · exfalso
    rcases Nat.lt_or_ge i l.length with h' | h'
    · rw [push_lt (by simpa using h'),hrep i] at hi
      cases hi
    · have h4:i<l.length+1:=by simpa using (Array.getElem?_eq_some_iff.1 ho').1
      obtain rfl:i=l.length:=by omega
      rw [show l.length=(Array.replicate l.toArray.size false).size by simp,push_at] at hi
      cases hi
  refine wpAny_of_G (P:=P) (cf:=cf) (b:=b) (N:=N) (S:=S) (D:=D) (X:=W) (n0:=Y.H.length) (n:=Y.H.length+Rn) (H0:=Y.H++gones Rn) (mods:=ms) (Qf:=fun T=>sW P cf b.fx N (l++[o]).toArray (fun X'=>Q .normal X') [o] ⟨T,foldS 0 ms (fun _=>true) (Y.H++gones Rn)⟩) (by simpa using h1) hn hc (by simpa using hbl) h2 (fun φ β M T a w hR hQ => .inl ⟨rfl,T,_,hQ,φ,β,M,hR⟩) _ _ φ' β' M Y.T a _ (by simp) (fun i o _ hi=>by rw [hrep i] at hi;cases hi) (by rw [hH0];exact hR'.draw) (fun s hs _ => ?_) ?_
  · rw [hH0]
    refine ⟨fun t=>lt_free hs (hR.lt t),fun i o hi => ?_⟩
    rcases Nat.lt_or_ge i Y.H.length with h' | h'
    · rw [List.getElem?_append_left h'] at hi
      exact ob_free hs (hR.hi.wf i o hi)
    · rw [List.getElem?_append_right h'] at hi
      have:=gones_mem (List.mem_of_getElem? hi)
      subst this
      intro y hy
      simp [obLs] at hy
  · have:=dAnyI_lex (ops:=l.toArray) (ok:=okG P cf b N l.toArray S D W Y.H.length (Y.H.length+Rn) (Y.H++gones Rn) ms) okG_cong (Q:=fun listed T=>(∀ j,j<l.toArray.size→listed.getD j false=true)∧sW P cf b.fx N (l++[o]).toArray (fun X'=>Q .normal X') [o] ⟨T,foldS 0 ms (fun _=>true) (Y.H++gones Rn)⟩) (Q0:=fun T=>sW P cf b.fx N (l++[o]).toArray (fun X'=>Q .normal X') [o] ⟨T,foldS 0 ms (fun _=>true) (Y.H++gones Rn)⟩) (fun listed T h5 h6=>⟨h5,h6⟩) l 0 (Array.replicate l.toArray.size false) Y.T (by simp) (by simp) (fun j hj=>by omega) (by simpa using hB.2) h3
    simpa using this
/-- behind a code, a thing takes the name of one that is gone -/
theorem awp_mvR {P:Program} {cf:Cfg} {b:Base} {N:Nat} {c:Code} {Q:Exit→St→Prop} {X:St} (i n:Nat) (h:awp P cf b N c (fun e Y=>∃ p,Y.H[i]? = some .gone∧Y.H[n]? = some p∧i≠n∧b.fx.getD i false=false∧b.fx.getD n false=false∧Q e ⟨Y.T.map (Lf.mv i n),((Y.H.map (Ob.map (Lf.mv i n))).set i (p.map (Lf.mv i n))).set n .gone⟩) X):awp P cf b N c Q X:=fun a w hR=>Code.wp_mono (fun e a' w' ⟨_,⟨_,h1,h2,h3,h4,h5,hq⟩,_,_,M,hR'⟩=>by
  obtain ⟨φ',β',hR2⟩:=hR'.mv h1 h2 h3 h4 h5
  exact ⟨_,hq,φ',β',M,hR2⟩) (h a w hR)
end Am
end Go.Proofs.YtjblpcgkffhgfaaGreat
