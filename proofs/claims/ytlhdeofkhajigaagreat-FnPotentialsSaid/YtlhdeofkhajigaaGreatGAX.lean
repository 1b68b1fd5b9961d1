/- The rules by which regions whose order is left open are run, in a bundle. Conditions: none. -/
import Derived.Test.YtlhdeofkhajigaaGreatMD
import Derived.Test.YtlhdeofkhajigaaGreatGAM
set_option linter.all false
set_option linter.unusedSimpArgs false
set_option linter.unusedVariables false
namespace Go.Proofs.YtlhdeofkhajigaaGreat
open Go Go.RowKit Am

theorem xg:type_of% (⟨@dG.eq_1,@dG.eq_2,@gStep.eq_1,@gRead.eq_1,@gNew.eq_1,@gPut.eq_1,@slotsOf.eq_1,@slotsOf.eq_2,@Wof.eq_1,@Wof.eq_2,@gones.eq_1,@gones.eq_2,@setAll.eq_1,@setAll.eq_2,@mv_row,@mv_b,@mv_own,@mv_ptr⟩:_∧_∧_∧_∧_∧_∧_∧_∧_∧_∧_∧_∧_∧_∧_∧_∧_∧_):=⟨@dG.eq_1,@dG.eq_2,@gStep.eq_1,@gRead.eq_1,@gNew.eq_1,@gPut.eq_1,@slotsOf.eq_1,@slotsOf.eq_2,@Wof.eq_1,@Wof.eq_2,@gones.eq_1,@gones.eq_2,@setAll.eq_1,@setAll.eq_2,@mv_row,@mv_b,@mv_own,@mv_ptr⟩
theorem amNG {P Q:Prop} (q:Q) (h:Hold Q→P:=by intro h;((simp (maxSteps:=3000000) only [xg,xr,simprocAttr];repeat (guard_target =~ _∧_;refine ⟨by first | (guard_target =~ _=_;rfl) | (guard_target =~ (_:Int)≤_;omega) | (first | with_reducible assumption | (guard_target =~ (_:Int)≤_;omega) | (guard_target =~ (_:Int)<_;omega) | (guard_target =~ (_:Nat)<_;omega) | (guard_target =~ (_:Nat)≤_;omega) | (guard_target =~ (_:Int)=_;omega) | (unfold I64;omega) | trivial | omega | (simp<;>omega) | (intros;omega)),?_⟩)));exact h.out):P:=h ⟨q⟩
theorem amTG {P Q:Prop} (q:Q) (h:Hold Q→P:=by intro h;((try simp (maxSteps:=3000000) only [xg,xr,simprocAttr]);repeat (guard_target =~ _∧_;refine ⟨by first | (guard_target =~ _=_;rfl) | (guard_target =~ (_:Int)≤_;omega) | (first | with_reducible assumption | (guard_target =~ (_:Int)≤_;omega) | (guard_target =~ (_:Int)<_;omega) | (guard_target =~ (_:Nat)<_;omega) | (guard_target =~ (_:Nat)≤_;omega) | (guard_target =~ (_:Int)=_;omega) | (unfold I64;omega) | trivial | omega | (simp<;>omega) | (intros;omega)),?_⟩));exact h.out):P:=h ⟨q⟩
end Go.Proofs.YtlhdeofkhajigaaGreat
/- A nil slice in a variable is a slice without elements. Conditions: none. -/
set_option linter.all false
set_option linter.unusedSimpArgs false
set_option linter.unusedVariables false
namespace Go.Proofs.YtlhdeofkhajigaaGreat
namespace Am
open Go Go.RowKit

theorem awp_nilT {P:Program} {cf:Cfg} {b:Base} {N:Nat} {X:St} {Q:Exit→St→Prop} {c:Code} (t:Nat) (d:Cn) (ht:X.T t=(true,.val (.slice none 0 0))) (h0:d.len=0) (hok:d.ok) (h:awp P cf b N c Q ⟨X.T.put (some t) (true,.sl d),X.H⟩):awp P cf b N c Q X:=fun a w ⟨φ,β,M,hR⟩=>by
  have e1:∀ s,(X.T.put (some t) (true,AV.sl d)) s=bif Nat.beq s t then (true,AV.sl d) else X.T s:=fun s=>rfl
  refine h a w ⟨φ,β,M,hR.cf,hR.le,hR.new,hR.hi,fun s => ?_,fun s => ?_,hR.own,hR.size,hR.below,hR.fix,hR.defers⟩
  · dsimp only;rw [e1]
    cases hs:Nat.beq s t with
    | false=>exact hR.t s
    | true =>
      rw [Nat.eq_of_beq_eq_true hs]
      refine ⟨fun _ => ?_,fun h=>by cases h⟩
      have h1:=(hR.t t).1 (by rw [ht])
      rw [ht] at h1
      have h2:a.tmps.getD t undef = .slice none 0 0:=h1
      rw [h2]
      exact nil_rel h0 hok
  · dsimp only;rw [e1]
    cases hs:Nat.beq s t with
    | false=>exact hR.lt s
    | true=>exact AV.lt_one.2 rfl
/-- names are kept for later -/
theorem awp_res {P:Program} {cf:Cfg} {b:Base} {N:Nat} {X:St} {Q:Exit→St→Prop} {c:Code} (R:Nat) (h:awp P cf b N c Q ⟨X.T,X.H++gones R⟩):awp P cf b N c Q X:=fun a w ⟨φ,β,M,hR⟩=>by
  obtain ⟨φ',β',hR'⟩:=RA.reserve (φ:=φ) R hR
  exact h a w ⟨φ',β',M,hR'⟩
/-- branches that meet: chg has turned, ss has not, and owned memory is H' -/
theorem awp_mid {P:Program} {cf:Cfg} {b:Base} {N:Nat} {X:St} {K:St→Prop} {Q:Exit→St→Prop} {c:Code} (chg:List (Nat×Bool×AV)) (ss:List Nat) (H':List Ob) (h1:awp P cf b N c (thenQ (fun X'=>leK (chg++kept X.T ss) H' X'∨∃ n,b.fx.length≤n∧leT n (chg++kept X.T ss) H' X') Q) X) (h2:K ⟨tab (chg++kept X.T ss),H'⟩):awp P cf b N c (thenQ K Q) X:=fun a w hR=>by
  refine Code.wp_mono (fun e a' w' ⟨X',k1,k2⟩ => ?_) (h1 a w hR)
  cases e with
  | normal =>
    rcases k1 with k1 | ⟨n,hn,k1⟩
    · exact ⟨_,h2,k2.leK k1⟩
    · exact ⟨_,h2,k2.le (k1.le hn)⟩
  | _=>exact ⟨X',k1,k2⟩
end Am
end Go.Proofs.YtlhdeofkhajigaaGreat
/- Steps that turn names alone, ahead of a place where branches meet. Conditions: those that each names. -/
set_option linter.all false
set_option linter.unusedSimpArgs false
set_option linter.unusedVariables false
namespace Go.Proofs.YtlhdeofkhajigaaGreat
namespace Am
open Go Go.RowKit
/-- what holds at X holds at Y -/
def Lead (P:Program) (cf:Cfg) (b:Base) (N:Nat) (X Y:St):Prop:=∀ a w,R P cf b N X a w→R P cf b N Y a w
section
variable {P:Program} {cf:Cfg} {b:Base} {N:Nat} {X Y:St} {K:St→Prop} {Q:Exit→St→Prop} {c:Code}
theorem awp_meet (S0:St) (h1:awp P cf b N c (thenQ (fun X'=>Lead P cf b N X' S0) Q) X) (h2:K S0):awp P cf b N c (thenQ K Q) X:=fun a w hR=>by
  refine Code.wp_mono (fun e a' w' ⟨X',k1,k2⟩ => ?_) (h1 a w hR)
  cases e with
  | normal=>exact ⟨_,h2,k1 a' w' k2⟩
  | _=>exact ⟨X',k1,k2⟩
theorem lead_T (n:Nat) {B:List (Nat×Bool×AV)} {H':List Ob} (hfx:b.fx.length≤n) (hl:leT n B H' X):Lead P cf b N X ⟨tab B,H'⟩:=fun _ _ hR=>hR.le (hl.le hfx)
end
end Am
end Go.Proofs.YtlhdeofkhajigaaGreat
/- Regions in whatever order, of whose calls some are told ahead: to which thing is handed what, and what comes back. Conditions: those that each names. -/
set_option linter.all false
set_option linter.unusedSimpArgs false
set_option linter.unusedVariables false
namespace Go.Proofs.YtlhdeofkhajigaaGreat
namespace Am
open Go Go.RowKit

/-- what is told of operation k -/
def hintOf:List (Nat×Nat×Ob×AV)→Nat→Option (Nat×Ob×AV)
  | [],_=>none
  | (j,x)::hs,k=>bif Nat.beq j k then some x else hintOf hs k
section
variable (P:Program) (cf:Cfg) (N:Nat) (ops:Array Oper) (S:List (Nat×List Nat)) (D:List Nat) (X:List (Nat×List Nat)) (n0 n:Nat) (hs:List (Nat×Nat×Ob×AV))
/-- one operation: as is told, or as it is -/
def gTold (k:Nat) (o:Oper) (T:Tm) (H:List Ob) (K:Bool×AV→List (Nat×Ob)→Prop):Option (Nat×Ob×AV)→Op→Prop
  | some (i,p',r),.call c=>o.guard=none∧gHand P n T H c i p' r∧gChk S D X n k [i]=true∧K (true,r) [(i,p')]
  | _,_=>gStep P cf ops S D X n0 n k o T H K
def dGH (Q:Tm→List Ob→Prop):Nat→List Oper→Tm→List Ob→Prop
  | _,[],T,H=>Q T H
  | k,o::l,T,H=>o.dst.all (Nat.blt · N)=true∧gTold P cf ops S D X n0 n k o T H (fun v m=>nmsB S D X n0 k v.2.leaves=true∧(m.all fun p=>nmsB S D X n0 k (obLs p.2))=true∧dGH Q (k+1) l (T.put o.dst v) (setAll H m)) (hintOf hs k) o.op
end
section
variable {P:Program} {cf:Cfg} {b:Base} {N:Nat} {ops:Array Oper} {S:List (Nat×List Nat)} {D:List Nat} {X:List (Nat×List Nat)} {n0 n:Nat} {hs:List (Nat×Nat×Ob×AV)} {H:List Ob} {T:Tm} {o:Oper}
theorem gTold_ok {k:Nat} {K:Bool×AV→List (Nat×Ob)→Prop} {x:Option (Nat×Ob×AV)} (hd:o.dst.all (Nat.blt · N)=true) (hfx:b.fx.length≤n0) (hl:H.length=n) (h:gTold P cf ops S D X n0 n k o T H K x o.op):∃ v m,K v m∧gOK P cf b N ops S D X n0 n k o T H v m:=by
  cases x with
  | none=>exact gStep_ok hd hfx hl h
  | some x =>
    obtain ⟨i,p',r⟩:=x
    generalize ho:o.op=op at h
    cases op with
    | call c =>
      obtain ⟨hg,hc,h1,h⟩:=h
      obtain ⟨k1,k2,k3⟩:=gChk_spec h1 i (by simp)
      exact ⟨_,_,h,[],fun q hq=>by simp at hq;subst hq;exact ⟨k1,k2,k3⟩,fun s hs=>by simp at hs,.inr fun H' hl' ha=>gHand_ok hd hg hl' k1 ho (gHand_agree ha k1 k2 hc)⟩
    | _=>exact gStep_ok hd hfx hl h
theorem dGH_run {H0:List Ob} {Q:Tm→List Ob→Prop} (hfx:b.fx.length≤n0) (hn:H0.length=n):∀ (l:List Oper) (k:Nat) (T:Tm) (mods0:List (List (Nat×Ob))),mods0.length=k→dGH P cf N ops S D X n0 n hs Q k l T (foldS 0 mods0 (fun _=>true) H0) →
    ∃ ms:List (List (Nat×Ob)),ms.length=l.length∧(∀ (q:Nat) m,ms[q]? = some m→∀ p∈m,p.1∈slotsOf S (k+q))∧dWI (okG P cf b N ops S D X n0 n H0 (mods0++ms)) (fun T=>Q T (foldS 0 (mods0++ms) (fun _=>true) H0)) k l T
  | [],k,T,mods0,hk,h=>⟨[],rfl,fun q m hq=>by simp at hq,by rw [List.append_nil];exact h⟩
  | o::l,k,T,mods0,hk,h=>by
    obtain ⟨hd,h⟩:=h
    obtain ⟨v,m,⟨hn1,hn2,h⟩,fr,g1,g2,g3⟩:=gTold_ok (P:=P) (b:=b) (N:=N) hd hfx (by rw [foldS_len,hn]) h
    have e:setAll (foldS 0 mods0 (fun _=>true) H0) m=foldS 0 (mods0++[m]) (fun _=>true) H0:=by rw [foldS_app];rfl
    rw [e] at h
    obtain ⟨ms,h1,h2,h3⟩:=dGH_run hfx hn l (k+1) _ (mods0++[m]) (by simp [hk]) h
    have e2:mods0++[m]++ms=mods0++m::ms:=by simp
    rw [e2] at h3
    refine ⟨m::ms,by simp [h1],fun q m' hq p hp => ?_,v,⟨m,fr,by rw [List.getElem?_append_right (by omega),hk,Nat.sub_self];rfl,g1,g2,hn1,fun p hp=>List.all_eq_true.1 hn2 p hp,?_⟩,h3⟩
    · cases q with
      | zero =>
        simp only [List.getElem?_cons_zero,Option.some.injEq] at hq
        subst hq
        exact (g1 p hp).2.2
      | succ q =>
        have:=h2 q m' (by simpa using hq) p hp
        rwa [show k+1+q=k+(q+1) by omega] at this
    · have e3:(mods0++m::ms).take k=mods0:=by rw [← hk,List.take_left]
      rw [e3]
      exact g3
/-- a region in whatever order, of whose calls hs tells -/
theorem awp_anyGH {id:Nat} {l:List Oper} {Y:St} {Q:Exit→St→Prop} (R:Nat) (S:List (Nat×List Nat)) (D:List Nat) (W:List (Nat×List Nat)) (hs:List (Nat×Nat×Ob×AV))
    (h:dGH P cf N l.toArray S D W Y.H.length (Y.H.length+R) hs (fun T H=>Q .normal ⟨T,H⟩) 0 l Y.T (Y.H++gones R)) (hm:P.follows .mixedOrders=true:=by kernel_rfl) (hB:Region.lexB .any l.toArray=true:=by kernel_rfl) (hc:confB l.toArray S D W=true:=by kernel_rfl) (hb:backB 0 l=true:=by kernel_rfl):awp P cf b N (.region id l.toArray true) Q Y:=fun a w ⟨φ,β,M,hR⟩=>by
  simp only [Region.lexB,Bool.and_eq_true] at hB
  obtain ⟨φ',β',hR'⟩:=RA.reserve (φ:=φ) R hR
  have hn:(Y.H++gones R).length=Y.H.length+R:=by rw [List.length_append,gones_len]
  obtain ⟨ms,h1,h2,h3⟩:=dGH_run (b:=b) hR.fix.1 hn l 0 Y.T [] rfl h
  simp only [List.nil_append,Nat.zero_add] at h2 h3
  have hrep:∀ j:Nat,(Array.replicate l.toArray.size false).getD j false=false:=fun j=>by
    rw [Array.getD_eq_getD_getElem?]
    rcases Nat.lt_or_ge j l.toArray.size with h' | h'
    · simp at h'
      simp [h']
    · simp at h'
      simp [h']
  have hH0:foldS 0 ms (fun j=>(Array.replicate l.toArray.size false).getD j false) (Y.H++gones R)=Y.H++gones R:=foldS_none ms 0 _ _ fun q _=>hrep _
  refine wp_region_any hm ?_
  refine wpAny_of_G (P:=P) (cf:=cf) (b:=b) (N:=N) (S:=S) (D:=D) (X:=W) (n0:=Y.H.length) (n:=Y.H.length+R) (H0:=Y.H++gones R) (mods:=ms) (Qf:=fun T=>Q .normal ⟨T,foldS 0 ms (fun _=>true) (Y.H++gones R)⟩) (by simpa using h1) hn hc (by simpa using hb) h2 (fun φ β M T a w hR hQ=>⟨_,hQ,φ,β,M,hR⟩) _ _ φ' β' M Y.T a _ (by simp) (fun i o _ hi=>by rw [hrep i] at hi;cases hi) (by rw [hH0];exact hR'.draw) (fun s hs _ => ?_) ?_
  · rw [hH0]
    refine ⟨fun t=>lt_free hs (hR.lt t),fun i o hi => ?_⟩
    rcases Nat.lt_or_ge i Y.H.length with h' | h'
    · rw [List.getElem?_append_left h'] at hi
      exact ob_free hs (hR.hi.wf i o hi)
    · rw [List.getElem?_append_right h'] at hi
      have:=gones_mem (List.mem_of_getElem? hi)
      subst this
      intro y hy
      simp [obLs] at hy
  · have:=dAnyI_lex (ops:=l.toArray) (ok:=okG P cf b N l.toArray S D W Y.H.length (Y.H.length+R) (Y.H++gones R) ms) okG_cong (Q:=fun listed T=>(∀ j,j<l.toArray.size→listed.getD j false=true)∧Q .normal ⟨T,foldS 0 ms (fun _=>true) (Y.H++gones R)⟩) (Q0:=fun T=>Q .normal ⟨T,foldS 0 ms (fun _=>true) (Y.H++gones R)⟩) (fun listed T h5 h6=>⟨h5,h6⟩) l 0 (Array.replicate l.toArray.size false) Y.T (by simp) (by simp) (fun j hj=>by omega) (by simpa using hB.2) h3
    simpa using this
end
theorem gTold_some (P:Program) (cf:Cfg) (ops:Array Oper) (S:List (Nat×List Nat)) (D:List Nat) (X:List (Nat×List Nat)) (n0 n k:Nat) (o:Oper) (T:Tm) (H:List Ob) (K:Bool×AV→List (Nat×Ob)→Prop) (i:Nat) (p':Ob) (r:AV) (c:Call):gTold P cf ops S D X n0 n k o T H K (some (i,p',r)) (.call c)=(o.guard=none∧gHand P n T H c i p' r∧gChk S D X n k [i]=true∧K (true,r) [(i,p')]):=rfl
theorem gTold_none (P:Program) (cf:Cfg) (ops:Array Oper) (S:List (Nat×List Nat)) (D:List Nat) (X:List (Nat×List Nat)) (n0 n k:Nat) (o:Oper) (T:Tm) (H:List Ob) (K:Bool×AV→List (Nat×Ob)→Prop) (p:Op):gTold P cf ops S D X n0 n k o T H K none p=gStep P cf ops S D X n0 n k o T H K:=rfl
theorem xgh:type_of% (⟨@dGH.eq_1,@dGH.eq_2,@hintOf.eq_1,@hintOf.eq_2,@gTold_some,@gTold_none⟩:_∧_∧_∧_∧_∧_):=⟨@dGH.eq_1,@dGH.eq_2,@hintOf.eq_1,@hintOf.eq_2,@gTold_some,@gTold_none⟩
theorem amNH {P Q:Prop} (q:Q) (h:Hold Q→P:=by intro h;((simp (maxSteps:=3000000) only [xg,xgh,xr,simprocAttr];repeat (guard_target =~ _∧_;refine ⟨by first | (guard_target =~ _=_;rfl) | (guard_target =~ (_:Int)≤_;omega) | (first | with_reducible assumption | (guard_target =~ (_:Int)≤_;omega) | (guard_target =~ (_:Int)<_;omega) | (guard_target =~ (_:Nat)<_;omega) | (guard_target =~ (_:Nat)≤_;omega) | (guard_target =~ (_:Int)=_;omega) | (unfold I64;omega) | trivial | omega | (simp<;>omega) | (intros;omega)),?_⟩)));exact h.out):P:=h ⟨q⟩
end Am
end Go.Proofs.YtlhdeofkhajigaaGreat
/- A region in which guarded operations are left out. Conditions: those that each names. -/
set_option linter.all false
set_option linter.unusedSimpArgs false
set_option linter.unusedVariables false
namespace Go.Proofs.YtlhdeofkhajigaaGreat
namespace Am
open Go Go.RowKit
/-- all operations of a region, in their order; those that are told are left out, since their guards say so -/
def sWx (P:Program) (cf:Cfg) (fx:List Bool) (N:Nat) (ops:Array Oper) (Q:St→Prop):List (Option AV)→List Oper→St→Prop
  | _,[],X=>Q X
  | some r::fl,o::l,X=>o.dst.all (Nat.blt · N)=true∧guardOf ops o X.T=(True,false)∧r.valB=true∧sWx P cf fx N ops Q fl l ⟨X.T.put o.dst (false,r),X.H⟩
  | none::fl,o::l,X=>stepW P cf fx N ops (sWx P cf fx N ops Q fl l) o X
  | [],o::l,X=>stepW P cf fx N ops (sWx P cf fx N ops Q [] l) o X
section
variable {P:Program} {cf:Cfg} {b:Base} {N:Nat} {ops:Array Oper}
theorem wpList_of_sWx {K:St→Prop} {Q':Exit→Act→World→Prop} (hQ:∀ φ' β' M' X' a' w',K X'→RA P cf b N φ' β' M' X' a' w'→Q' .normal a' w'):∀ (fl:List (Option AV)) (l:List Oper) (φ:Nat→Value) (β:Nat→Nat→Prop) (M:Mem) (X:St) (a:Act) (w:World),
    RA P cf b N φ β M X a w→sWx P cf b.fx N ops K fl l X→wpList P ops Q' l a w
  | [],[],_,_,_,_,_,_,hR,h=>hQ _ _ _ _ _ _ h hR
  | none::_,[],_,_,_,_,_,_,hR,h=>hQ _ _ _ _ _ _ h hR
  | some _::_,[],_,_,_,_,_,_,hR,h=>hQ _ _ _ _ _ _ h hR
  | some r::fl,o::l,_,_,_,X,_,_,hR,⟨h1,h2,h3,h4⟩=>by
    have hw:=wanted_eq (ops:=ops) (o:=o) hR (by rw [h2];trivial)
    rw [h2] at hw
    unfold wpList
    rw [if_neg (by rw [hw];simp)]
    exact wpList_of_sWx hQ fl l _ _ _ _ _ _ (hR.put (d:=o.dst) (u:=undef) h1 (Mem.le_refl _) hR.new hR.hi hR.below ⟨fun hf=>(by cases hf),fun _=>rfl⟩ (val_lt h3 _)) h4
  | none::fl,o::l,_,_,_,_,_,_,hR,h=>wpList_step hR h fun _ _ _ _ _ _ hK hR'=>wpList_of_sWx hQ fl l _ _ _ _ _ _ hR' hK
  | [],o::l,_,_,_,_,_,_,hR,h=>wpList_step hR h fun _ _ _ _ _ _ hK hR'=>wpList_of_sWx hQ [] l _ _ _ _ _ _ hR' hK
theorem awp_regX (fl:List (Option AV)) {Q:Exit→St→Prop} {X:St} {id:Nat} {l:List Oper} (h:sWx P cf b.fx N l.toArray (fun X'=>Q .normal X') fl l X):awp P cf b N (.region id l.toArray false) Q X:=fun a w ⟨φ,β,M,hR⟩ =>
  wp_region_lit (wpList_of_sWx (K:=fun X'=>Q .normal X') (fun φ' β' M' X' a' w' hQ hR'=>⟨_,hQ,φ',β',M',hR'⟩) fl l φ β M X a w hR h)
end
end Am
end Go.Proofs.YtlhdeofkhajigaaGreat
