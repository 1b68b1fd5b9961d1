/- Words for memory that all texts of this seat use: what a slice reads as, what a call owns, and how both last. No program is named here but its type numbers. Conditions: none. -/
import Derived.WalkKit
import Derived.ProofKit
import Derived.BigQuiet
import Derived.Maps.AppendAt
import Derived.Test.YtnblieajjclipaaGreatProg
set_option linter.all false
namespace Go.Proofs.YtnblieajjclipaaGreat
open Go.RowKit
theorem hide {p:Prop} (h:p):Hid p:=h
theorem add_zero (a:Addr):a.add 0=a:=rfl
theorem add_lit (g o n:Nat):(⟨g,o,none⟩:Addr).add n=⟨g,o+n,none⟩:=by
 unfold Addr.add
 by_cases h:n=0<;>simp [h]
theorem block_lt {w:World} {a:Addr} {v:Value} (h:w.cell? a=some v):a.block<w.heap.size:=by
 rcases Nat.lt_or_ge a.block w.heap.size with hlt | hge
 ·exact hlt
 ·unfold World.cell? at h;rw [Array.getElem?_eq_none hge] at h;cases h
def Qt (w w':World):Prop:=∃ n,w'=w.drewN n
theorem Qt.refl (w:World):Qt w w:=⟨0,rfl⟩
theorem Qt.below {w w':World} (h:Qt w w') (B:Nat):Below B w w':=by
 obtain ⟨n,rfl⟩:=h
 exact ⟨rfl,rfl,rfl,Nat.le_refl _,fun _ _=>rfl⟩
theorem lQ {P:Program} {f:FuncId} {args:Array Value} {w:World} {v:Value} (h:Calls P f args w fun e w'=>e = .returned v/\w=w'):Calls P f args w fun e w''=>e = .returned v/\∃ m,w''=w.drewN m :=
 h.mono fun _ _ ⟨he,hm⟩=>⟨he,0,by rw [← hm];rfl⟩
theorem jg {P:Program} {f:FuncId} {args:Array Value} {w:World} {v:Value} {a n:Nat} (h:Calls P f args (w.drewN (a+n)) fun e w'=>e = .returned v/\w.drewN (a+n)=w'):Calls P f args (w.drewN (a+n)) fun e w''=>e = .returned v/\∃ m,w''=w.drewN (a+m) :=
 h.mono fun _ _ ⟨he,hm⟩=>⟨he,n,hm.symm⟩
theorem jh {P:Program} {f:FuncId} {args:Array Value} {w:World} {v:Value} {n:Nat} (h:Calls P f args (w.drewN n) fun e w'=>e = .returned v/\w.drewN n=w'):Calls P f args (w.drewN n) fun e w''=>e = .returned v/\∃ m,w''=w.drewN m :=
 h.mono fun _ _ ⟨he,hm⟩=>⟨he,n,hm.symm⟩
theorem lS {P:Program} {f:FuncId} {args:Array Value} {w:World} {v:Value} {n:Nat} (h:Calls P f args (w.drewN n) fun e w'=>e = .returned v/\Qt (w.drewN n) w'):Calls P f args (w.drewN n) fun e w''=>e = .returned v/\∃ m,w''=w.drewN m :=
 h.mono fun _ _ ⟨he,m,hm⟩=>⟨he,n+m,by rw [hm,World.drewN_drewN]⟩
theorem lT {P:Program} {f:FuncId} {args:Array Value} {w:World} {v:Value} {a n:Nat} (h:Calls P f args (w.drewN (a+n)) fun e w'=>e = .returned v/\Qt (w.drewN (a+n)) w'):Calls P f args (w.drewN (a+n)) fun e w''=>e = .returned v/\∃ m,w''=w.drewN (a+m) :=
 h.mono fun _ _ ⟨he,m,hm⟩=>⟨he,n+m,by rw [hm,World.drewN_drewN,Nat.add_assoc]⟩
def RdV (w:World) (A:Option Addr) (vs:List Value):Prop :=
 vs≠[]->∃ ad,A=some ad/\∀ j (h:j<vs.length),w.cell? (ad.add j)=some vs[j]
def SlI (w:World) (u:Value) (xs:List Int):Prop :=
 ∃ A c,u = .slice A xs.length c/\xs.length<=c/\c<=9223372036854775807/\RdV w A (xs.map (Value.int .i64))
def SlO {α:Type} (R:World->Value->α->Prop) (w:World) (u:Value) (xs:List α):Prop :=
 ∃ A c us,u = .slice A xs.length c/\xs.length<=c/\c<=9223372036854775807/\us.length=xs.length/\RdV w A us/\∀ (j:Nat) (h:j<us.length) (h':j<xs.length),R w us[j] xs[j]
abbrev jr:=SlO SlI
abbrev Tt:=SlO jr
section
variable {w w':World} {A:Option Addr} {vs:List Value} {u:Value} {xs:List Int}
theorem RdV.below (h:RdV w A vs) (hb:Below w.heap.size w w'):RdV w' A vs:=fun hn=>by
 obtain ⟨ad,e,hc⟩:=h hn
 exact ⟨ad,e,fun j hj=>(hb.cell (block_lt (hc j hj))).trans (hc j hj)⟩
theorem RdV.drewN (h:RdV w A vs) (n:Nat):RdV (w.drewN n) A vs:=h
theorem RdV.at_ (h:RdV w A vs) {j:Nat} (hj:j<vs.length):∃ ad,A=some ad/\w.cell? (ad.add j)=some vs[j]:=by
 obtain ⟨ad,e,hc⟩:=h (by rintro rfl;simp at hj)
 exact ⟨ad,e,hc j hj⟩
theorem RdV.nil:RdV w A []:=fun h=>(h rfl).elim
theorem SlI.below (h:SlI w u xs) (hb:Below w.heap.size w w'):SlI w' u xs:=by
 obtain ⟨A,c,e,h1,h2,h3⟩:=h
 exact ⟨A,c,e,h1,h2,h3.below hb⟩
theorem SlI.drewN (h:SlI w u xs) (n:Nat):SlI (w.drewN n) u xs:=h
theorem SlI.len (h:SlI w u xs):xs.length<=9223372036854775807:=by
 obtain ⟨A,c,e,h1,h2,_⟩:=h
 omega
theorem SlI.view (h:SlI w u xs):∃ A c,u = .slice A xs.length c/\xs.length<=c/\c<=9223372036854775807 /\
  ∀ j (hj:j<xs.length),∃ ad,A=some ad/\w.cell? (ad.add j)=some (.int .i64 xs[j]):=by
 obtain ⟨A,c,e,h1,h2,h3⟩:=h
 refine ⟨A,c,e,h1,h2,fun j hj =>?_⟩
 obtain ⟨ad,e',hc⟩:=h3.at_ (j:=j) (by simpa using hj)
 exact ⟨ad,e',by rw [hc];simp⟩
theorem SlI.nil_:SlI w (.slice none 0 0) []:=⟨none,0,rfl,Nat.le_refl _,by omega,RdV.nil⟩
theorem SlO.below {α:Type} {R:World->Value->α->Prop} {xs:List α} (hR:∀ {u x},R w u x->Below w.heap.size w w'->R w' u x) (h:SlO R w u xs) (hb:Below w.heap.size w w'):SlO R w' u xs:=by
 obtain ⟨A,c,us,e,h1,h2,h3,h4,h5⟩:=h
 exact ⟨A,c,us,e,h1,h2,h3,h4.below hb,fun j h h'=>hR (h5 j h h') hb⟩
theorem SlO.len {α:Type} {R:World->Value->α->Prop} {xs:List α} (h:SlO R w u xs):xs.length<=9223372036854775807:=by
 obtain ⟨A,c,us,e,h1,h2,_⟩:=h
 omega
theorem SlO.view {α:Type} {R:World->Value->α->Prop} {xs:List α} (h:SlO R w u xs):∃ A c,u = .slice A xs.length c/\xs.length<=c/\c<=9223372036854775807 /\
  ∀ j (hj:j<xs.length),∃ ad v,A=some ad/\w.cell? (ad.add j)=some v/\R w v xs[j]:=by
 obtain ⟨A,c,us,e,h1,h2,h3,h4,h5⟩:=h
 refine ⟨A,c,e,h1,h2,fun j hj =>?_⟩
 obtain ⟨ad,e',hc⟩:=h4.at_ (j:=j) (by omega)
 exact ⟨ad,_,e',hc,h5 j (by omega) hj⟩
theorem jr.below {xss:List (List Int)} (h:jr w u xss) (hb:Below w.heap.size w w'):jr w' u xss:=SlO.below (fun h hb=>SlI.below h hb) h hb
theorem Tt.below {xss:List (List (List Int))} (h:Tt w u xss) (hb:Below w.heap.size w w'):Tt w' u xss:=SlO.below (fun h hb=>jr.below h hb) h hb
end
def InB (lo hi:Nat) (u:Value):Prop:=∀ g,u.ownBlock=some g->lo<=g/\g<hi
def Jk (w:World) (u:Value) (xs:List Int):Prop:=w.ownsRow 0 3 1 u xs.length (xs.map (Value.int .i64))
def OwI (w:World) (lo hi:Nat) (u:Value) (xs:List Int):Prop:=Jk w u xs/\InB lo hi u
def Apart (us:List Value):Prop:=us.Pairwise fun a b=>∀ g,a.ownBlock=some g->b.ownBlock≠some g
structure One {α:Type} (R:World->Value->α->Prop):Prop where
 keep:∀ {w w':World} {v:Value} {x:α},R w v x->(∀ g,v.ownBlock=some g->w'.heap[g]? = w.heap[g]?)->R w' v x
 lt:∀ {w:World} {v:Value} {x:α} {g:Nat},R w v x->v.ownBlock=some g->g<w.heap.size
def OwO {α:Type} (e:Nat) (R:World->Value->α->Prop) (w:World) (lo hi:Nat) (u:Value) (xs:List α):Prop :=
 ∃ us:List Value,us.length=xs.length/\w.ownsRow 0 e 1 u xs.length us/\(∀ (j:Nat) (h:j<us.length) (h':j<xs.length),R w us[j] xs[j])/\Apart (u::us)/\∀ v∈u::us,InB lo hi v
abbrev acF:=OwO 26 Jk
structure Frm (lo hi:Nat) (w w':World):Prop where
 os:w'.os=w.os
 tape:w'.tape=w.tape
 output:w'.output=w.output
 size:w.heap.size<=w'.heap.size
 block:∀ k,k<w.heap.size->k<lo\/hi<=k->w'.heap[k]? = w.heap[k]?
section
variable {w w' w'':World} {u:Value} {lo hi lo' hi' B:Nat}
theorem Frm.refl (lo hi:Nat) (w:World):Frm lo hi w w:=⟨rfl,rfl,rfl,Nat.le_refl _,fun _ _ _=>rfl⟩
theorem Frm.trans (h:Frm lo hi w w') (k:Frm lo hi w' w''):Frm lo hi w w'' :=
 ⟨k.os.trans h.os,k.tape.trans h.tape,k.output.trans h.output,Nat.le_trans h.size k.size,fun i hi' ho=>(k.block i (Nat.lt_of_lt_of_le hi' h.size) ho).trans (h.block i hi' ho)⟩
theorem Frm.mono (h:Frm lo hi w w') (h1:lo'<=lo) (h2:hi<=hi'):Frm lo' hi' w w' :=
 ⟨h.os,h.tape,h.output,h.size,fun k hk ho=>h.block k hk (by omega)⟩
theorem Frm.below (h:Frm lo hi w w') (hB:B<=lo) (hs:B<=w.heap.size):Below B w w':=⟨h.os,h.tape,h.output,h.size,fun k hk=>h.block k (by omega) (by omega)⟩
theorem Frm.grown {row:Option Nat} (h:w.grownBy w' row) (hr:∀ g,row=some g->lo<=g/\g<hi):Frm lo hi w w' :=
 ⟨h.os,h.tape,h.output,h.size,fun k hk ho=>h.block k hk (fun e=>by have:=hr k e.symm;omega)⟩
theorem Frm.drewN (h:Frm lo hi w w') (n:Nat):Frm lo hi w (w'.drewN n):=⟨h.os,h.tape,h.output,h.size,h.block⟩
theorem below_drewN (h:Below B w w') (n:Nat):Below B w (w'.drewN n):=⟨h.os,h.tape,h.output,h.size,h.block⟩
theorem Cj (w:World) (B n:Nat):Below B w (w.drewN n):=below_drewN (Below.refl _ _) n
theorem O5 {W w1:World} (hb:Below W.heap.size W w1):(∀ b o,b<W.heap.size->w1.cell? ⟨b,o,none⟩=W.cell? ⟨b,o,none⟩)/\(∀ b o,b<W.heap.size->w1.frozen? ⟨b,o,none⟩=W.frozen? ⟨b,o,none⟩) :=
 ⟨fun b o h=>hb.cell (p:=⟨b,o,none⟩) h,fun b o h=>hb.frozen (p:=⟨b,o,none⟩) h⟩
theorem kV (h:Below B w w') (h':Below w'.heap.size w' w'') (hB:B<=w.heap.size):Below B w w'':=h.trans (h'.mono (Nat.le_trans hB h.size))
theorem yH {base e size n:Nat} {xs:List Value} (h:w.ownsRow base e size u n xs) (hk:∀ g,u.ownBlock=some g->w'.heap[g]? = w.heap[g]?):w'.ownsRow base e size u n xs:=by
 obtain ⟨h1,h2⟩:=h
 refine ⟨h1,?_⟩
 rcases h2 with h2 | ⟨g,cap,cur,rfl,hg,hh,r⟩
 ·exact .inl h2
 ·exact .inr ⟨g,cap,cur,rfl,hg,(hk g rfl).trans hh,r⟩
theorem D9 {base e size n:Nat} {xs:List Value} (h:w.ownsRow base e size u n xs) {g:Nat} (hg:u.ownBlock=some g):g<w.heap.size:=by
 rcases h.2 with ⟨rfl,_⟩ | ⟨g',cap,cur,rfl,_,hh,_⟩
 ·simp [Value.ownBlock] at hg
 ·simp [Value.ownBlock] at hg
  subst hg
  exact (Array.getElem?_eq_some_iff.1 hh).1
theorem rX (h:InB lo hi u) (h1:lo'<=lo) (h2:hi<=hi'):InB lo' hi' u:=fun g hg=>by have:=h g hg;omega
theorem P7:InB lo hi (.slice none 0 0):=fun g hg=>by simp [Value.ownBlock] at hg
theorem Jk.nil_:Jk w (.slice none 0 0) []:=World.ownsRow_nil _ _ _ _
theorem Jk.sl {xs:List Int} (h:Jk w u xs):SlI w u xs:=by
 obtain ⟨h1,h2⟩:=h
 rcases h2 with ⟨rfl,h0⟩ | ⟨g,cap,cur,rfl,hg,hh,hn,hc,hcs,ht⟩
 ·have:xs=[]:=List.eq_nil_of_length_eq_zero h0
  subst this
  exact SlI.nil_
 ·refine ⟨_,cap,rfl,hn,by simpa [maxLen] using hc,fun _=>⟨_,rfl,fun j hj =>?_⟩⟩
  have hj':j<xs.length:=by simpa using hj
  rw [add_lit,Nat.zero_add,cell_of_row w g j cur 3 (0,0) hh]
  have:cur.toList[j]? = (xs.map (Value.int .i64))[j]? := by rw [← ht,List.getElem?_take,if_pos (by omega)]
  rw [← Array.getElem?_toList,this,List.getElem?_eq_getElem hj]
theorem OwI.lt {xs:List Int} (h:OwI w lo hi u xs) {g:Nat} (hg:u.ownBlock=some g):g<w.heap.size:=D9 h.1 hg
theorem OwI.keep {xs:List Int} (h:OwI w lo hi u xs) (hk:∀ g,u.ownBlock=some g->w'.heap[g]? = w.heap[g]?):OwI w' lo hi u xs:=⟨yH h.1 hk,h.2⟩
theorem OwI.below {xs:List Int} (h:OwI w lo hi u xs) (hb:Below w.heap.size w w'):OwI w' lo hi u xs:=h.keep fun g hg=>hb.block g (h.lt hg)
theorem OwI.drew {xs:List Int} (h:OwI w lo hi u xs):OwI w.drew lo hi u xs:=h
theorem OwI.drewN {xs:List Int} (h:OwI w lo hi u xs) (n:Nat):OwI (w.drewN n) lo hi u xs:=h
theorem OwI.mono {xs:List Int} (h:OwI w lo hi u xs) (h1:lo'<=lo) (h2:hi<=hi'):OwI w lo' hi' u xs:=⟨h.1,rX h.2 h1 h2⟩
theorem OwI.sl {xs:List Int} (h:OwI w lo hi u xs):SlI w u xs:=h.1.sl
theorem OwI.nil_:OwI w lo hi (.slice none 0 0) []:=⟨Jk.nil_,P7⟩
theorem OwI.cellAt {xs:List Int} {g n cap:Nat} (h:OwI w lo hi (.slice (some ⟨g,0,none⟩) n cap) xs) (hn:n=xs.length) {j:Nat} (hj:j<xs.length):w.cell? ⟨g,j,none⟩=some (.int .i64 xs[j]):=by
 subst hn
 rw [World.ownsRow.cellAt h.1 j (by omega)]
 simp [hj]
theorem OwI.free {xs:List Int} {g n cap:Nat} (h:OwI w lo hi (.slice (some ⟨g,0,none⟩) n cap) xs) (hn:n=xs.length) (j:Nat):w.frozen? ⟨g,j,none⟩=false:=by
 subst hn
 exact World.ownsRow.frozenAt h.1 j
theorem OwI.set {xs:List Int} {g n cap:Nat} (h:OwI w lo hi (.slice (some ⟨g,0,none⟩) n cap) xs) (hn:n=xs.length) (j:Nat) (x:Int) :
  OwI (w.setCell ⟨g,j,none⟩ (.int .i64 x)) lo hi (.slice (some ⟨g,0,none⟩) n cap) (xs.set j x)/\Frm lo hi w (w.setCell ⟨g,j,none⟩ (.int .i64 x)):=by
 subst hn
 have hs:=World.ownsRow.stored h.1 j (.int .i64 x)
 refine ⟨⟨by simpa [Jk,List.map_set] using hs.1,h.2⟩,Frm.grown hs.2 fun k hk=>h.2 k (by simpa [Value.ownBlock] using hk)⟩
section
variable {α:Type} {R:World->Value->α->Prop} {e:Nat} {xs:List α}
theorem OwO.keep (hR:One R) (h:OwO e R w lo hi u xs) (hk:∀ g,lo<=g->g<hi->g<w.heap.size->w'.heap[g]? = w.heap[g]?):OwO e R w' lo hi u xs:=by
 obtain ⟨us,h1,h2,h3,h4,h5⟩:=h
 refine ⟨us,h1,yH h2 fun g hg=>hk g (h5 u (by simp) g hg).1 (h5 u (by simp) g hg).2 (D9 h2 hg),fun j hj hj'=>hR.keep (h3 j hj hj') fun g hg =>?_,h4,h5⟩
 have:=h5 us[j] (by simp) g hg
 exact hk g this.1 this.2 (hR.lt (h3 j hj hj') hg)
theorem OwO.below (hR:One R) (h:OwO e R w lo hi u xs) (hb:Below w.heap.size w w'):OwO e R w' lo hi u xs:=h.keep hR fun g _ _ h3=>hb.block g h3
theorem OwO.mono (h:OwO e R w lo hi u xs) (h1:lo'<=lo) (h2:hi<=hi'):OwO e R w lo' hi' u xs:=by
 obtain ⟨us,k1,k2,k3,k4,k5⟩:=h
 exact ⟨us,k1,k2,k3,k4,fun v hv=>rX (k5 v hv) h1 h2⟩
theorem OwO.sl {S:World->Value->α->Prop} (hS:∀ {v x},R w v x->S w v x) (h:OwO e R w lo hi u xs):SlO S w u xs:=by
 obtain ⟨us,k1,k2,k3,_,_⟩:=h
 rcases k2.2 with ⟨rfl,h0⟩ | ⟨g,cap,cur,rfl,hg,hh,hn,hc,hcs,ht⟩
 ·have:xs=[]:=List.eq_nil_of_length_eq_zero h0
  subst this
  exact ⟨none,0,us,rfl,by simp,by omega,by simpa using k1,fun hne=>by simp [List.eq_nil_of_length_eq_zero (show us.length=0 by simpa using k1)] at hne,fun j _ hj'=>by simp at hj'⟩
 ·refine ⟨_,cap,us,rfl,hn,by simpa [maxLen] using hc,k1,fun _=>⟨_,rfl,fun j hj =>?_⟩,fun j hj hj'=>hS (k3 j hj hj')⟩
  rw [add_lit,Nat.zero_add,cell_of_row w g j cur e (0,0) hh]
  have:cur.toList[j]? = us[j]? := by rw [← ht,List.getElem?_take,if_pos (by omega)]
  rw [← Array.getElem?_toList,this,List.getElem?_eq_getElem hj]
theorem OwO.nil_:OwO e R w lo hi (.slice none 0 0) []:=⟨[],rfl,World.ownsRow_nil _ _ _ _,fun j h=>by simp at h,by simp [Apart],fun v hv=>by simp at hv;subst hv;exact P7⟩
theorem OwO.elem {g n cap:Nat} (h:OwO e R w lo hi (.slice (some ⟨g,0,none⟩) n cap) xs) (hn:n=xs.length) {j:Nat} (hj:j<xs.length) :
  ∃ v,w.cell? ⟨g,j,none⟩=some v/\R w v xs[j]/\InB lo hi v:=by
 subst hn
 obtain ⟨us,k1,k2,k3,_,k5⟩:=h
 refine ⟨us[j]'(by omega),?_,k3 j (by omega) hj,k5 _ (by simp)⟩
 rw [k2.cellAt j (by omega),List.getElem?_eq_getElem]
theorem OwO.free {g n cap:Nat} (h:OwO e R w lo hi (.slice (some ⟨g,0,none⟩) n cap) xs) (hn:n=xs.length) (j:Nat):w.frozen? ⟨g,j,none⟩=false:=by
 subst hn
 obtain ⟨us,k1,k2,_⟩:=h
 exact k2.frozenAt j
theorem FC (us:List Value):Apart us↔∀ (i j:Nat) (hi:i<us.length) (hj:j<us.length),i<j->∀ g,us[i].ownBlock=some g->us[j].ownBlock≠some g:=List.pairwise_iff_getElem
theorem OwO.set (hR:One R) {g n cap:Nat} (h:OwO e R w lo hi (.slice (some ⟨g,0,none⟩) n cap) xs) (hn:n=xs.length) {j:Nat} (_hj:j<xs.length) {v:Value} {x:α} (hv:R w v x) (hb:InB hi hi' v) (hh:hi<=hi') (hl:lo<=hi) :
  OwO e R (w.setCell ⟨g,j,none⟩ v) lo hi' (.slice (some ⟨g,0,none⟩) n cap) (xs.set j x)/\Frm lo hi w (w.setCell ⟨g,j,none⟩ v):=by
 subst hn
 obtain ⟨us,k1,k2,k3,k4,k5⟩:=h
 have hs:=k2.stored j v
 have hg:=k5 (.slice (some ⟨g,0,none⟩) xs.length cap) (by simp) g rfl
 have hfar:∀ b,b≠g->(w.setCell ⟨g,j,none⟩ v).heap[b]? = w.heap[b]? := fun b hb=>Below.heap_setCell _ _ _ _ hb
 have hu:∀ i (hi':i<us.length) b,us[i].ownBlock=some b->b≠g:=by
  intro i hi' b hb e
  subst e
  exact (List.pairwise_cons.1 k4).1 us[i] (List.getElem_mem hi') b rfl hb
 refine ⟨⟨us.set j v,by simpa using k1,by simpa using hs.1,fun i hi1 hi2 =>?_,?_,?_⟩,Frm.grown hs.2 fun k hk =>?_⟩
 ·rcases Nat.lt_trichotomy j i with hlt | rfl | hlt
  ·rw [List.getElem_set_ne (by omega),List.getElem_set_ne (by omega)]
   exact hR.keep (k3 i (by simpa using hi1) (by simpa using hi2)) fun b hb=>hfar b (hu i (by simpa using hi1) b hb)
  ·rw [List.getElem_set_self,List.getElem_set_self]
   exact hR.keep hv fun b hb'=>hfar b (by have:=hb b hb';omega)
  ·rw [List.getElem_set_ne (by omega),List.getElem_set_ne (by omega)]
   exact hR.keep (k3 i (by simpa using hi1) (by simpa using hi2)) fun b hb=>hfar b (hu i (by simpa using hi1) b hb)
 ·have h4:=(FC _).1 (List.pairwise_cons.1 k4).2
  refine List.pairwise_cons.2 ⟨fun b hb' g' hg' =>?_,(FC _).2 fun a b ha hb' hab g' hg' =>?_⟩
  ·rcases List.mem_or_eq_of_mem_set hb' with h | h
   ·exact (List.pairwise_cons.1 k4).1 b h g' hg'
   ·subst h
    intro e
    have:=hb g' e
    simp [Value.ownBlock] at hg'
    omega
  ·by_cases hja:j=a
   ·subst hja
    rw [List.getElem_set_self] at hg'
    rw [List.getElem_set_ne (by omega)]
    intro e
    have h1:=hb g' hg'
    have h2:=k5 (us[b]'(by simpa using hb')) (by simp) g' e
    omega
   ·rw [List.getElem_set_ne hja] at hg'
    by_cases hjb:j=b
    ·subst hjb
     rw [List.getElem_set_self]
     intro e
     have h1:=hb g' e
     have h2:=k5 (us[a]'(by simpa using ha)) (by simp) g' hg'
     omega
    ·rw [List.getElem_set_ne hjb]
     exact h4 a b (by simpa using ha) (by simpa using hb') hab g' hg'
 ·intro v' hv'
  rcases List.mem_cons.1 hv' with rfl | hm
  ·exact rX (k5 _ (by simp)) (Nat.le_refl _) hh
  ·rcases List.mem_or_eq_of_mem_set hm with h | h
   ·exact rX (k5 v' (by simp [h])) (Nat.le_refl _) hh
   ·subst h
    exact rX hb hl (Nat.le_refl _)
 ·simp at hk
  omega
end
def Live (w:World) (L:List (Addr×Value)):Prop:=∀ p∈L,w.cell? p.1=some p.2
theorem Live.nil_ (w:World):Live w []:=fun _ h=>by simp at h
theorem Live.next {L:List (Addr×Value)} (h:Live w L) (hb:Below w.heap.size w w'):Live w' L:=fun p hp=>(hb.cell (block_lt (h p hp))).trans (h p hp)
theorem Live.alloc {L:List (Addr×Value)} (h:Live w L) (o:Obj):Live (w.alloc o) L:=fun p hp=>(World.cell?_alloc_lt _ _ _ (block_lt (h p hp))).trans (h p hp)
def boxed (b:Nat):Nat->List Value->List (Addr×Value)
 | _,[]=>[]
 | k,v::vs=>(⟨b,k,none⟩,v)::boxed b (k+1) vs
theorem Gs {b:Nat} {p:Addr×Value}:∀ {k:Nat} {vs:List Value},p∈boxed b k vs->∃ j,p.1=⟨b,k+j,none⟩/\vs[j]? = some p.2
 | k,[],h=>by simp [boxed] at h
 | k,v::vs,h=>by
  rcases List.mem_cons.1 h with rfl | h
  ·exact ⟨0,rfl,rfl⟩
  ·obtain ⟨j,h1,h2⟩:=Gs h
   exact ⟨j+1,by rw [h1,Nat.add_assoc,Nat.add_comm 1 j],by simpa using h2⟩
theorem Live.box {L:List (Addr×Value)} (h:Live w L) (cs:List Value) (t:TypeId):Live (w.alloc (.cells cs.toArray t)) (boxed w.heap.size 0 cs++L):=fun p hp=>by
 rcases List.mem_append.1 hp with hp | hp
 ·obtain ⟨j,h1,h2⟩:=Gs hp
  rw [h1,Nat.zero_add,cell_of_row (w.alloc (.cells cs.toArray t)) w.heap.size j cs.toArray t (0,0) (heap_alloc_new w _)]
  simpa using h2
 ·exact h.alloc _ p hp
theorem Live.cells {L:List (Addr×Value)} (h:Live w L):L.foldr (fun p q=>w.cell? p.1=some p.2/\q) True:=by
 induction L with
 | nil=>trivial
 | cons p L ih=>exact ⟨h p (by simp),ih fun q hq=>h q (by simp [hq])⟩
theorem BN {w:World} {b:Nat} {x y u0 u1:Value} (h0:w.cell? ⟨b,0,none⟩=some u0) (h1:w.cell? ⟨b,1,none⟩=some u1) :
  ((w.setCell ⟨b,0,none⟩ x).setCell ⟨b,1,none⟩ y).cell? ⟨b,0,none⟩=some x/\((w.setCell ⟨b,0,none⟩ x).setCell ⟨b,1,none⟩ y).cell? ⟨b,1,none⟩=some y:=by
 have h1':(w.setCell ⟨b,0,none⟩ x).cell? ⟨b,1,none⟩=some u1:=(World.cell?_setCell_other _ _ _ _ (by simp)).trans h1
 have h0':(w.setCell ⟨b,0,none⟩ x).cell? ⟨b,0,none⟩=some x:=World.cell?_setCell_same _ _ _ h0
 exact ⟨(World.cell?_setCell_other _ _ _ _ (by simp)).trans h0',World.cell?_setCell_same _ _ _ h1'⟩
theorem acF.sl {xss:List (List Int)} (h:acF w lo hi u xss):jr w u xss:=OwO.sl (fun h=>h.sl) h
end
def idxOf {α:Type} (p:α->Bool) (xs:List α):Int:=match xs.findIdx? p with | some i=>(i:Int) | none => -1
theorem gZ {α:Type} {p:α->Bool} {xs:List α} (h:∀ x∈xs,p x=false):idxOf p xs = -1:=by
 unfold idxOf
 rw [List.findIdx?_eq_none_iff.2 h]
theorem ig {α:Type} {p:α->Bool} {xs:List α} {k:Nat} (hk:k<xs.length) (h:p xs[k]=true) (h':∀ x∈xs.take k,p x=false):idxOf p xs=k:=by
 unfold idxOf
 have:xs.findIdx? p=some k:=by
  rw [List.findIdx?_eq_some_iff_getElem]
  refine ⟨hk,h,fun j hj =>?_⟩
  have:=h' xs[j] (List.mem_take_iff_getElem.2 ⟨j,by omega,rfl⟩)
  simp [this]
 rw [this]
theorem pK {α:Type} (p:α->Bool) (xs:List α):decide (0<=idxOf p xs)=xs.any p:=by
 unfold idxOf
 cases h:xs.findIdx? p with
 | none =>
  rw [List.findIdx?_eq_none_iff] at h
  have:xs.any p=false:=by simpa using h
  rw [this]
  rfl
 | some i =>
  rw [List.findIdx?_eq_some_iff_getElem] at h
  have:xs.any p=true:=List.any_eq_true.2 ⟨_,List.getElem_mem h.1,h.2.1⟩
  rw [this]
  simp
def Enters (P:Program) (K:FuncId):Prop:=∀ (av:Array Value) (W:World),(callFunc K av).run P W = .ok (.enter K av) W
set_option maxHeartbeats 1000000 in
theorem Du (w:World) (u:Value) (xs:List Int) (K:FuncId) (cap:Array Value) (p:Int->Bool) (hK:Enters Tryz.prog K) (hx:SlI w u xs)
  (hf:∀ W,Below w.heap.size w W->∀ (j:Nat) (hj:j<xs.length) (v:Value),v = .int .i64 xs[j]->Calls Tryz.prog K (#[v]++cap) W fun e W'=>e = .returned (.bool (p xs[j]))/\Below W.heap.size W W') :
  Calls Tryz.prog 171 #[u,.func (.func K) #[] cap] w fun e w'=>e = .returned (.int .i64 (idxOf p xs))/\Below w.heap.size w w':=by
 have hlen:=hx.len
 obtain ⟨A,c,rfl,hc1,hc2,hcell⟩:=hx.view
 have HK:=hide hK
 have HF:=hide hf
 clear hK hf hx
 go_enter Tryz.func171,Tryz.ntmps171
 go_wp2
 go_loopw [8] (fun i wr=>∃ k:Nat,k<=xs.length/\i = .int .i64 k/\Hid (∀ x∈xs.take k,p x=false)/\Below w.heap.size w wr) (fun i _=>xs.length-(intOf i).toNat)
 case atStart=>exact ⟨0,Nat.zero_le _,rfl,(fun x h=>by simp at h),Below.refl _ _⟩
 case round =>
  obtain ⟨k,hk,rfl,hN,hB⟩:=hrel
  by_cases hlt:k<xs.length
  ·obtain ⟨ad,rfl,hc⟩:=hcell k hlt
   have hc':=(hB.cell (block_lt hc)).trans hc
   cases hp:p xs[k]
   ·have HP:=hide hp
    have HE:∀ (av:Array Value) (W:World),(callFunc K av).run Tryz.prog W = .ok (.enter K av) W:=HK.out
    clear hp hc hcell
    go_wp2_with ((with_reducible refine (HF.out _ hB k hlt _ rfl).mono ?_);rintro e w2 ⟨rfl,hb2⟩;rw [HP.out];dsimp only)
    go_roundw
    case rel =>
     refine ⟨k+1,by omega,by go_num,?_,kV hB hb2 (Nat.le_refl _)⟩
     intro x hx
     rw [List.take_succ_eq_append_getElem hlt] at hx
     rcases List.mem_append.1 hx with hx | hx
     ·exact hN.out x hx
     ·simp at hx
      rw [hx]
      exact HP.out
    case measure=>simp [intOf];omega
   ·have HP:=hide hp
    have HE:∀ (av:Array Value) (W:World),(callFunc K av).run Tryz.prog W = .ok (.enter K av) W:=HK.out
    clear hp hc hcell
    go_wp2_with ((with_reducible refine (HF.out _ hB k hlt _ rfl).mono ?_);rintro e w2 ⟨rfl,hb2⟩;rw [HP.out];dsimp only)
    go_ret
    exact ⟨by rw [ig hlt HP.out hN.out];rfl,kV hB hb2 (Nat.le_refl _)⟩
  ·go_wp2
   go_ret
   obtain rfl:k=xs.length:=by omega
   have h1:=hN.out
   rw [List.take_of_length_le (Nat.le_refl _)] at h1
   exact ⟨by rw [gZ h1];rfl,hB⟩
theorem nV (w:World) (u:Value) (xs:List Int) (K:FuncId) (cap:Array Value) (p:Int->Bool) (hK:Enters Tryz.prog K) (hx:SlI w u xs)
  (hf:∀ W,Below w.heap.size w W->∀ (j:Nat) (hj:j<xs.length) (v:Value),v = .int .i64 xs[j]->Calls Tryz.prog K (#[v]++cap) W fun e W'=>e = .returned (.bool (p xs[j]))/\Below W.heap.size W W') :
  Calls Tryz.prog 141 #[u,.func (.func K) #[] cap] w fun e w'=>e = .returned (.bool (xs.any p))/\Below w.heap.size w w':=by
 have H:=hide (Du w u xs K cap p hK hx hf)
 clear hf hx hK
 have HA:=hide (pK p xs)
 go_enter Tryz.func141,Tryz.ntmps141
 go_wp2_with ((with_reducible refine H.out.mono ?_);rintro e w2 ⟨rfl,hb2⟩;dsimp only)
 go_ret
 exact ⟨by rw [← HA.out];rfl,hb2⟩
set_option maxHeartbeats 1000000 in
theorem AZ (w:World) (u:Value) (xs:List (List Int)) (K:FuncId) (cap:Array Value) (p:(List Int)->Bool) (hK:Enters Tryz.prog K) (hx:jr w u xs)
  (hf:∀ W,Below w.heap.size w W->∀ (j:Nat) (hj:j<xs.length) (v:Value),SlI w v xs[j]->Calls Tryz.prog K (#[v]++cap) W fun e W'=>e = .returned (.bool (p xs[j]))/\Below W.heap.size W W') :
  Calls Tryz.prog 153 #[u,.func (.func K) #[] cap] w fun e w'=>e = .returned (.int .i64 (idxOf p xs))/\Below w.heap.size w w':=by
 have hlen:=SlO.len hx
 obtain ⟨A,c,rfl,hc1,hc2,hcell⟩:=SlO.view hx
 have HK:=hide hK
 have HF:=hide hf
 clear hK hf hx
 go_enter Tryz.func153,Tryz.ntmps153
 go_wp2
 go_loopw [8] (fun i wr=>∃ k:Nat,k<=xs.length/\i = .int .i64 k/\Hid (∀ x∈xs.take k,p x=false)/\Below w.heap.size w wr) (fun i _=>xs.length-(intOf i).toNat)
 case atStart=>exact ⟨0,Nat.zero_le _,rfl,(fun x h=>by simp at h),Below.refl _ _⟩
 case round =>
  obtain ⟨k,hk,rfl,hN,hB⟩:=hrel
  by_cases hlt:k<xs.length
  ·obtain ⟨ad,v,rfl,hc,hv⟩:=hcell k hlt
   have hc':=(hB.cell (block_lt hc)).trans hc
   cases hp:p xs[k]
   ·have HP:=hide hp
    have HE:∀ (av:Array Value) (W:World),(callFunc K av).run Tryz.prog W = .ok (.enter K av) W:=HK.out
    clear hp hc hcell
    go_wp2_with ((with_reducible refine (HF.out _ hB k hlt _ hv).mono ?_);rintro e w2 ⟨rfl,hb2⟩;rw [HP.out];dsimp only)
    go_roundw
    case rel =>
     refine ⟨k+1,by omega,by go_num,?_,kV hB hb2 (Nat.le_refl _)⟩
     intro x hx
     rw [List.take_succ_eq_append_getElem hlt] at hx
     rcases List.mem_append.1 hx with hx | hx
     ·exact hN.out x hx
     ·simp at hx
      rw [hx]
      exact HP.out
    case measure=>simp [intOf];omega
   ·have HP:=hide hp
    have HE:∀ (av:Array Value) (W:World),(callFunc K av).run Tryz.prog W = .ok (.enter K av) W:=HK.out
    clear hp hc hcell
    go_wp2_with ((with_reducible refine (HF.out _ hB k hlt _ hv).mono ?_);rintro e w2 ⟨rfl,hb2⟩;rw [HP.out];dsimp only)
    go_ret
    exact ⟨by rw [ig hlt HP.out hN.out];rfl,kV hB hb2 (Nat.le_refl _)⟩
  ·go_wp2
   go_ret
   obtain rfl:k=xs.length:=by omega
   have h1:=hN.out
   rw [List.take_of_length_le (Nat.le_refl _)] at h1
   exact ⟨by rw [gZ h1];rfl,hB⟩
theorem mZ (w:World) (u:Value) (xs:List (List Int)) (K:FuncId) (cap:Array Value) (p:(List Int)->Bool) (hK:Enters Tryz.prog K) (hx:jr w u xs)
  (hf:∀ W,Below w.heap.size w W->∀ (j:Nat) (hj:j<xs.length) (v:Value),SlI w v xs[j]->Calls Tryz.prog K (#[v]++cap) W fun e W'=>e = .returned (.bool (p xs[j]))/\Below W.heap.size W W') :
  Calls Tryz.prog 123 #[u,.func (.func K) #[] cap] w fun e w'=>e = .returned (.bool (xs.any p))/\Below w.heap.size w w':=by
 have H:=hide (AZ w u xs K cap p hK hx hf)
 clear hf hx hK
 have HA:=hide (pK p xs)
 go_enter Tryz.func123,Tryz.ntmps123
 go_wp2_with ((with_reducible refine H.out.mono ?_);rintro e w2 ⟨rfl,hb2⟩;dsimp only)
 go_ret
 exact ⟨by rw [← HA.out];rfl,hb2⟩
def rng (n lo hi:Int):Bool:=decide (lo<=n/\n<=hi)
theorem uG {n lo hi:Int} (h1:lo<=n) (h2:n<=hi):rng n lo hi=true:=decide_eq_true ⟨h1,h2⟩
theorem zX {n lo hi:Int} (h:n<lo\/hi<n):rng n lo hi=false:=decide_eq_false (by omega)
theorem gK {n lo hi:Int}:rng n lo hi=true↔lo<=n/\n<=hi:=by simp [rng]
theorem eX (w:World) (n lo hi:Int):Calls Tryz.prog 128 #[.int .i64 n,.int .i64 lo,.int .i64 hi] w fun e w'=>e = .returned (.bool (rng n lo hi))/\w=w':=by
 by_cases h1:lo<=n
 ·by_cases h2:n<=hi
  ·have hd:decide (n<=hi)=true:=by simpa using h2
   rw [uG h1 h2]
   go_enter Tryz.func128,Tryz.ntmps128
   go_wp2
   go_ret
   exact ⟨by simp,rfl⟩
  ·have hd:decide (n<=hi)=false:=by simpa using h2
   rw [zX (.inr (by omega))]
   go_enter Tryz.func128,Tryz.ntmps128
   go_wp2
   go_ret
   exact ⟨by simp,rfl⟩
 ·have hd:decide (lo<=n)=false:=by simpa using h1
  rw [zX (.inl (by omega))]
  go_enter Tryz.func128,Tryz.ntmps128
  go_wp2
  go_ret
  exact ⟨by simp,rfl⟩
theorem gG (w:World) (n lo hi:Int) (h1:lo<=n) (h2:n<=hi):Calls Tryz.prog 128 #[.int .i64 n,.int .i64 lo,.int .i64 hi] w fun e w'=>e = .returned (.bool true)/\w=w' :=
 (eX w n lo hi).mono fun _ _ ⟨h,h'⟩=>⟨by rw [h,uG h1 h2],h'⟩
theorem iJ (w:World) (n lo hi:Int) (h:n<lo\/hi<n):Calls Tryz.prog 128 #[.int .i64 n,.int .i64 lo,.int .i64 hi] w fun e w'=>e = .returned (.bool false)/\w=w' :=
 (eX w n lo hi).mono fun _ _ ⟨h1,h'⟩=>⟨by rw [h1,zX h],h'⟩
theorem dX (w:World) (n lo hi:Int):Calls Tryz.prog 70 #[.int .i64 n,.int .i64 lo,.int .i64 hi] w fun e w'=>e = .returned (.bool (rng n lo hi))/\w=w':=by
 by_cases h1:lo<=n
 ·by_cases h2:n<=hi
  ·have hd:decide (n<=hi)=true:=by simpa using h2
   rw [uG h1 h2]
   go_enter Tryz.func70,Tryz.ntmps70
   go_wp2
   go_ret
   exact ⟨by simp,rfl⟩
  ·have hd:decide (n<=hi)=false:=by simpa using h2
   rw [zX (.inr (by omega))]
   go_enter Tryz.func70,Tryz.ntmps70
   go_wp2
   go_ret
   exact ⟨by simp,rfl⟩
 ·have hd:decide (lo<=n)=false:=by simpa using h1
  rw [zX (.inl (by omega))]
  go_enter Tryz.func70,Tryz.ntmps70
  go_wp2
  go_ret
  exact ⟨by simp,rfl⟩
theorem jo (w:World) (n lo hi:Int) (h1:lo<=n) (h2:n<=hi):Calls Tryz.prog 70 #[.int .i64 n,.int .i64 lo,.int .i64 hi] w fun e w'=>e = .returned (.bool true)/\w=w' :=
 (dX w n lo hi).mono fun _ _ ⟨h,h'⟩=>⟨by rw [h,uG h1 h2],h'⟩
theorem kN (w:World) (n lo hi:Int) (h:n<lo\/hi<n):Calls Tryz.prog 70 #[.int .i64 n,.int .i64 lo,.int .i64 hi] w fun e w'=>e = .returned (.bool false)/\w=w' :=
 (dX w n lo hi).mono fun _ _ ⟨h1,h'⟩=>⟨by rw [h1,zX h],h'⟩
end Go.Proofs.YtnblieajjclipaaGreat
