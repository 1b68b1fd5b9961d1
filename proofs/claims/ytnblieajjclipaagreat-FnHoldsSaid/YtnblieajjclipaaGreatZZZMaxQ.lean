/- The rules by which regions whose order is left open are run, in a bundle. Conditions: none. -/
import Derived.Test.YtnblieajjclipaaGreatMD
import Derived.Test.YtnblieajjclipaaGreatGAM
set_option linter.all false
namespace Go.Proofs.YtnblieajjclipaaGreat
open Go Go.RowKit Am
theorem xg:type_of% (⟨@dG.eq_1,@dG.eq_2,@slotsOf.eq_1,@slotsOf.eq_2,@Wof.eq_1,@Wof.eq_2,@fH.eq_1,@fH.eq_2,@eY.eq_1,@eY.eq_2,@Cn.addN.eq_1,@Cn.addN.eq_2,@Cn.addN.eq_3,@Cn.addN.eq_4,@Cn.addN.eq_5,@VE,@Yk,@wE,@NV⟩:_/\_/\_/\_/\_/\_/\_/\_/\_/\_/\_/\_/\_/\_/\_/\_/\_/\_/\_):=⟨@dG.eq_1,@dG.eq_2,@slotsOf.eq_1,@slotsOf.eq_2,@Wof.eq_1,@Wof.eq_2,@fH.eq_1,@fH.eq_2,@eY.eq_1,@eY.eq_2,@Cn.addN.eq_1,@Cn.addN.eq_2,@Cn.addN.eq_3,@Cn.addN.eq_4,@Cn.addN.eq_5,@VE,@Yk,@wE,@NV⟩
theorem xgp:type_of% (⟨@Dj.eq_1,@J3.eq_1,@zB.eq_1,@XV.eq_1⟩:_/\_/\_/\_):=⟨@Dj.eq_1,@J3.eq_1,@zB.eq_1,@XV.eq_1⟩
theorem xw {P Q:Prop} (q:Q) (h:Hold Q->P:=by intro h;((simp (maxSteps:=3000000) only [xg,↓xgp,xr,simprocAttr];repeat (guard_target =~ _/\_;refine ⟨by first | (guard_target =~ _=_;rfl) | (guard_target =~ (_:Int)<=_;omega) | (first | with_reducible assumption | (guard_target =~ (_:Int)<=_;omega) | (guard_target =~ (_:Int)<_;omega) | (guard_target =~ (_:Nat)<_;omega) | (guard_target =~ (_:Nat)<=_;omega) | (guard_target =~ (_:Int)=_;omega) | (unfold I64;omega) | trivial | omega | (simp<;>omega) | (intros;omega)),?_⟩)));exact h.out):P:=h ⟨q⟩
theorem zk {P Q:Prop} (q:Q) (h:Hold Q->P:=by intro h;((try simp (maxSteps:=3000000) only [xg,↓xgp,xr,simprocAttr]);repeat (guard_target =~ _/\_;refine ⟨by first | (guard_target =~ _=_;rfl) | (guard_target =~ (_:Int)<=_;omega) | (first | with_reducible assumption | (guard_target =~ (_:Int)<=_;omega) | (guard_target =~ (_:Int)<_;omega) | (guard_target =~ (_:Nat)<_;omega) | (guard_target =~ (_:Nat)<=_;omega) | (guard_target =~ (_:Int)=_;omega) | (unfold I64;omega) | trivial | omega | (simp<;>omega) | (intros;omega)),?_⟩));exact h.out):P:=h ⟨q⟩
end Go.Proofs.YtnblieajjclipaaGreat
namespace Go.Proofs.YtnblieajjclipaaGreat
namespace Am
open Go Go.RowKit
theorem XB {P:Program} {cf:Cfg} {b:Base} {N:Nat} {X:St} {Q:Exit->St->Prop} {c:Code} (R:Nat) (h:awp P cf b N c Q ⟨X.T,X.H++fH R⟩):awp P cf b N c Q X:=fun a w ⟨φ,β,M,hR⟩=>by
 obtain ⟨φ',β',hR'⟩:=RA.reserve (φ:=φ) R hR
 exact h a w ⟨φ',β',M,hR'⟩
theorem Bf {P:Program} {cf:Cfg} {b:Base} {N:Nat} {X:St} {K:St->Prop} {Q:Exit->St->Prop} {c:Code} (chg:List (Nat×Bool×AV)) (ss:List Nat) (H':List Ob) (h1:awp P cf b N c (nS (fun X'=>leK (chg++kept X.T ss) H' X'\/∃ n,b.fx.length<=n/\leT n (chg++kept X.T ss) H' X') Q) X) (h2:K ⟨tab (chg++kept X.T ss),H'⟩):awp P cf b N c (nS K Q) X:=fun a w hR=>by
 refine Code.wp_mono (fun e a' w' ⟨X',k1,k2⟩ =>?_) (h1 a w hR)
 cases e with
 | normal =>
  rcases k1 with k1 | ⟨n,hn,k1⟩
  ·exact ⟨_,h2,k2.leK k1⟩
  ·exact ⟨_,h2,k2.le (k1.le hn)⟩
 | _=>exact ⟨X',k1,k2⟩
theorem TM {P:Program} {cf:Cfg} {b:Base} {N:Nat} {X:St} {K:St->Prop} {Q:Exit->St->Prop} {c:Code} (id:Nat) (chg:List (Nat×Bool×AV)) (ss:List Nat) (H':List Ob) (h1:awp P cf b N c (gB id (nS (fun X'=>leK (chg++kept X.T ss) H' X'\/∃ n,b.fx.length<=n/\leT n (chg++kept X.T ss) H' X') Q)) X) (h2:K ⟨tab (chg++kept X.T ss),H'⟩):awp P cf b N c (gB id (nS K Q)) X:=fun a w hR=>by
 refine Code.wp_mono (fun e a' w' ⟨X',k1,k2⟩ =>?_) (h1 a w hR)
 have key:∀ X',(leK (chg++kept X.T ss) H' X'\/∃ n,b.fx.length<=n/\leT n (chg++kept X.T ss) H' X')->R P cf b N X' a' w'->∃ X'',K X''/\R P cf b N X'' a' w':=fun X' k1 k2=>by
  rcases k1 with k1 | ⟨n,hn,k1⟩
  ·exact ⟨_,h2,k2.leK k1⟩
  ·exact ⟨_,h2,k2.le (k1.le hn)⟩
 cases e with
 | normal=>exact key X' k1 k2
 | exit id' =>
  by_cases he:id'=id
  ·simp only [gB,if_pos he,nS] at k1 ⊢
   exact key X' k1 k2
  ·simp only [gB,if_neg he] at k1 ⊢
   exact ⟨X',k1,k2⟩
 | _=>exact ⟨X',k1,k2⟩
end Am
end Go.Proofs.YtnblieajjclipaaGreat
namespace Go.Proofs.YtnblieajjclipaaGreat
open Go Go.RowKit Am
def mxN (w:List Int):Nat->Int
 | 0=>w.getD 0 0
 | k+1=>max (mxN w k) (w.getD (k+1) 0)
theorem LK (w:List Int) (hw:0<w.length):Does Tryz.prog 102 [.sl (.ints w)] (.imm (.int (mxN w (w.length-1)))):=by
 refine aF Tryz.func102 rfl Tryz.ntmps102 aQ (fun _ _=>by kernel_rfl) rfl (Nat.le_of_ble_eq_true rfl) ?_
 intro M0 w0
 rw [Tryz.results102]
 (refine bY 0 rfl fun hf =>?_;simp only [xp,simprocAttr] at hf;simp only [xf,simprocAttr] at hf)
 refine ah ?_
 refine aj amQ (fun hq =>?_) (fun hq =>?_)
 ·have hq:=of_decide_eq_true hq
  omega
 refine ah ?_
 refine aA (α:=Nat) (fun k=>[(3,true,.int (mxN w k)),(4,true,.int ((k:Int)+1))]) [0] (fun _=>[]) (fun k=>k<=w.length-1) (fun k=>w.length-1-k) 0 (by exact bW) (Nat.zero_le _) fun k hk =>?_
 simp only [xr,simprocAttr]
 refine ah ?_
 refine aj amQ (fun hc =>?_) (fun hc =>?_)
 ·have hc:=of_decide_eq_true hc
  have hk':k+1<w.length:=by omega
  refine ah ?_
  refine ⟨k+1,by omega,by omega,.inl ?_⟩
  exact bW
 ·have hc:=of_decide_eq_false hc
  have hk':k=w.length-1:=by omega
  subst hk'
  refine ah ?_
  refine bJ ?_
  rfl
end Go.Proofs.YtnblieajjclipaaGreat
namespace Go.Proofs.YtnblieajjclipaaGreat
namespace Am
open Go Go.RowKit
def hintOf:List (Nat×Nat×Ob×AV)->Nat->Option (Nat×Ob×AV)
 | [],_=>none
 | (j,x)::hs,k=>bif Nat.beq j k then some x else hintOf hs k
section
variable (P:Program) (cf:Cfg) (N:Nat) (ops:Array Oper) (S:List (Nat×List Nat)) (D:List Nat) (X:List (Nat×List Nat)) (n0 n:Nat) (hs:List (Nat×Nat×Ob×AV))
def PS (k:Nat) (o:Oper) (T:Tm) (H:List Ob) (K:Bool×AV->List (Nat×Ob)->Prop):Option (Nat×Ob×AV)->Op->Prop
 | some (i,p',r),.call c=>o.guard=none/\Di P n T H c i p' r/\Dh S D X n k [i]=true/\K (true,r) [(i,p')]
 | _,_=>Dj P cf ops S D X n0 n k o T H K
def dGH (Q:Tm->List Ob->Prop):Nat->List Oper->Tm->List Ob->Prop
 | _,[],T,H=>Q T H
 | k,o::l,T,H=>o.dst.all (Nat.blt · N)=true/\PS P cf ops S D X n0 n k o T H (fun v m=>Fj S D X n0 k v.2.leaves=true/\(m.all fun p=>Fj S D X n0 k (nJ p.2))=true/\dGH Q (k+1) l (T.put o.dst v) (eY H m)) (hintOf hs k) o.op
end
section
variable {P:Program} {cf:Cfg} {b:Base} {N:Nat} {ops:Array Oper} {S:List (Nat×List Nat)} {D:List Nat} {X:List (Nat×List Nat)} {n0 n:Nat} {hs:List (Nat×Nat×Ob×AV)} {H:List Ob} {T:Tm} {o:Oper}
theorem UK {k:Nat} {K:Bool×AV->List (Nat×Ob)->Prop} {x:Option (Nat×Ob×AV)} (hd:o.dst.all (Nat.blt · N)=true) (hfx:b.fx.length<=n0) (hl:H.length=n) (h:PS P cf ops S D X n0 n k o T H K x o.op):∃ v m,K v m/\gOK P cf b N ops S D X n0 n k o T H v m:=by
 cases x with
 | none=>exact Dk hd hfx hl h
 | some x =>
  obtain ⟨i,p',r⟩:=x
  generalize ho:o.op=op at h
  cases op with
  | call c =>
   obtain ⟨hg,hc,h1,h⟩:=h
   obtain ⟨k1,k2,k3⟩:=fZ h1 i (by simp)
   exact ⟨_,_,h,[],fun q hq=>by simp at hq;subst hq;exact ⟨k1,k2,k3⟩,fun s hs=>by simp at hs,.inr fun H' hl' ha=>JZ hd hg hl' k1 ho (Aw ha k1 k2 hc)⟩
  | _=>exact Dk hd hfx hl h
theorem Pq {H0:List Ob} {Q:Tm->List Ob->Prop} (hfx:b.fx.length<=n0) (hn:H0.length=n):∀ (l:List Oper) (k:Nat) (T:Tm) (mods0:List (List (Nat×Ob))),mods0.length=k->dGH P cf N ops S D X n0 n hs Q k l T (bZ 0 mods0 (fun _=>true) H0) ->
  ∃ ms:List (List (Nat×Ob)),ms.length=l.length/\(∀ (q:Nat) m,ms[q]? = some m->∀ p∈m,p.1∈slotsOf S (k+q))/\dWI (okG P cf b N ops S D X n0 n H0 (mods0++ms)) (fun T=>Q T (bZ 0 (mods0++ms) (fun _=>true) H0)) k l T
 | [],k,T,mods0,hk,h=>⟨[],rfl,fun q m hq=>by simp at hq,by rw [List.append_nil];exact h⟩
 | o::l,k,T,mods0,hk,h=>by
  obtain ⟨hd,h⟩:=h
  obtain ⟨v,m,⟨hn1,hn2,h⟩,fr,g1,g2,g3⟩:=UK (P:=P) (b:=b) (N:=N) hd hfx (by rw [mP,hn]) h
  have e:eY (bZ 0 mods0 (fun _=>true) H0) m=bZ 0 (mods0++[m]) (fun _=>true) H0:=by rw [uf];rfl
  rw [e] at h
  obtain ⟨ms,h1,h2,h3⟩:=Pq hfx hn l (k+1) _ (mods0++[m]) (by simp [hk]) h
  have e2:mods0++[m]++ms=mods0++m::ms:=by simp
  rw [e2] at h3
  refine ⟨m::ms,by simp [h1],fun q m' hq p hp =>?_,v,⟨m,fr,by rw [List.getElem?_append_right (by omega),hk,Nat.sub_self];rfl,g1,g2,hn1,fun p hp=>List.all_eq_true.1 hn2 p hp,?_⟩,h3⟩
  ·cases q with
   | zero =>
    simp only [List.getElem?_cons_zero,Option.some.injEq] at hq
    subst hq
    exact (g1 p hp).2.2
   | succ q =>
    have:=h2 q m' (by simpa using hq) p hp
    rwa [show k+1+q=k+(q+1) by omega] at this
  ·have e3:(mods0++m::ms).take k=mods0:=by rw [← hk,List.take_left]
   rw [e3]
   exact g3
theorem jV {id:Nat} {l:List Oper} {Y:St} {Q:Exit->St->Prop} (R:Nat) (S:List (Nat×List Nat)) (D:List Nat) (W:List (Nat×List Nat)) (hs:List (Nat×Nat×Ob×AV))
  (h:dGH P cf N l.toArray S D W Y.H.length (Y.H.length+R) hs (fun T H=>Q .normal ⟨T,H⟩) 0 l Y.T (Y.H++fH R)) (hm:P.follows .mixedOrders=true:=by kernel_rfl) (hB:Region.lexB .any l.toArray=true:=by kernel_rfl) (hc:Pm l.toArray S D W=true:=by kernel_rfl) (hb:Ci 0 l=true:=by kernel_rfl):awp P cf b N (.region id l.toArray true) Q Y:=fun a w ⟨φ,β,M,hR⟩=>by
 simp only [Region.lexB,Bool.and_eq_true] at hB
 obtain ⟨φ',β',hR'⟩:=RA.reserve (φ:=φ) R hR
 have hn:(Y.H++fH R).length=Y.H.length+R:=by rw [List.length_append,zD]
 obtain ⟨ms,h1,h2,h3⟩:=Pq (b:=b) hR.fix.1 hn l 0 Y.T [] rfl h
 simp only [List.nil_append,Nat.zero_add] at h2 h3
 have hrep:∀ j:Nat,(Array.replicate l.toArray.size false).getD j false=false:=fun j=>by
  rw [Array.getD_eq_getD_getElem?]
  rcases Nat.lt_or_ge j l.toArray.size with h' | h'
  ·simp at h'
   simp [h']
  ·simp at h'
   simp [h']
 have hH0:bZ 0 ms (fun j=>(Array.replicate l.toArray.size false).getD j false) (Y.H++fH R)=Y.H++fH R:=qC ms 0 _ _ fun q _=>hrep _
 refine wp_region_any hm ?_
 refine EU (P:=P) (cf:=cf) (b:=b) (N:=N) (S:=S) (D:=D) (X:=W) (n0:=Y.H.length) (n:=Y.H.length+R) (H0:=Y.H++fH R) (mods:=ms) (Qf:=fun T=>Q .normal ⟨T,bZ 0 ms (fun _=>true) (Y.H++fH R)⟩) (by simpa using h1) hn hc (by simpa using hb) h2 (fun φ β M T a w hR hQ=>⟨_,hQ,φ,β,M,hR⟩) _ _ φ' β' M Y.T a _ (by simp) (fun i o _ hi=>by rw [hrep i] at hi;cases hi) (by rw [hH0];exact hR'.draw) (fun s hs _ =>?_) ?_
 ·rw [hH0]
  refine ⟨fun t=>Qc hs (hR.lt t),fun i o hi =>?_⟩
  rcases Nat.lt_or_ge i Y.H.length with h' | h'
  ·rw [List.getElem?_append_left h'] at hi
   exact Qk hs (hR.hi.wf i o hi)
  ·rw [List.getElem?_append_right h'] at hi
   have:=zF (List.mem_of_getElem? hi)
   subst this
   intro y hy
   simp [nJ] at hy
 ·have:=pG (ops:=l.toArray) (ok:=okG P cf b N l.toArray S D W Y.H.length (Y.H.length+R) (Y.H++fH R) ms) Lc (Q:=fun listed T=>(∀ j,j<l.toArray.size->listed.getD j false=true)/\Q .normal ⟨T,bZ 0 ms (fun _=>true) (Y.H++fH R)⟩) (Q0:=fun T=>Q .normal ⟨T,bZ 0 ms (fun _=>true) (Y.H++fH R)⟩) (fun listed T h5 h6=>⟨h5,h6⟩) l 0 (Array.replicate l.toArray.size false) Y.T (by simp) (by simp) (fun j hj=>by omega) (by simpa using hB.2) h3
  simpa using this
end
theorem Dn (P:Program) (cf:Cfg) (ops:Array Oper) (S:List (Nat×List Nat)) (D:List Nat) (X:List (Nat×List Nat)) (n0 n k:Nat) (o:Oper) (T:Tm) (H:List Ob) (K:Bool×AV->List (Nat×Ob)->Prop) (i:Nat) (p':Ob) (r:AV) (c:Call):PS P cf ops S D X n0 n k o T H K (some (i,p',r)) (.call c)=(o.guard=none/\Di P n T H c i p' r/\Dh S D X n k [i]=true/\K (true,r) [(i,p')]):=rfl
theorem Dl (P:Program) (cf:Cfg) (ops:Array Oper) (S:List (Nat×List Nat)) (D:List Nat) (X:List (Nat×List Nat)) (n0 n k:Nat) (o:Oper) (T:Tm) (H:List Ob) (K:Bool×AV->List (Nat×Ob)->Prop) (p:Op):PS P cf ops S D X n0 n k o T H K none p=Dj P cf ops S D X n0 n k o T H K:=rfl
theorem xgh:type_of% (⟨@dGH.eq_1,@dGH.eq_2,@hintOf.eq_1,@hintOf.eq_2,@Dn,@Dl⟩:_/\_/\_/\_/\_/\_):=⟨@dGH.eq_1,@dGH.eq_2,@hintOf.eq_1,@hintOf.eq_2,@Dn,@Dl⟩
theorem Mc {P Q:Prop} (q:Q) (h:Hold Q->P:=by intro h;((simp (maxSteps:=3000000) only [xg,↓xgp,xgh,xr,simprocAttr];repeat (guard_target =~ _/\_;refine ⟨by first | (guard_target =~ _=_;rfl) | (guard_target =~ (_:Int)<=_;omega) | (first | with_reducible assumption | (guard_target =~ (_:Int)<=_;omega) | (guard_target =~ (_:Int)<_;omega) | (guard_target =~ (_:Nat)<_;omega) | (guard_target =~ (_:Nat)<=_;omega) | (guard_target =~ (_:Int)=_;omega) | (unfold I64;omega) | trivial | omega | (simp<;>omega) | (intros;omega)),?_⟩)));exact h.out):P:=h ⟨q⟩
end Am
end Go.Proofs.YtnblieajjclipaaGreat
