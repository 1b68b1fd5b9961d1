/- Words for memory that all texts of this seat use: what a slice reads as, what a call owns, and how both last. No program is named here but its type numbers. Conditions: none. -/
import Derived.WalkKit
import Derived.ProofKit
import Derived.BigQuiet
import Derived.Maps.AppendAt
import Derived.Test.YtkcelmnbfbehbaaGreatProg
set_option linter.all false
namespace Go.Proofs.YtkcelmnbfbehbaaGreat
open Go.RowKit
theorem hide {p:Prop} (h:p):Hid p:=h
theorem add_zero (a:Addr):a.add 0=a:=rfl
theorem add_lit (g o n:Nat):(⟨g,o,none⟩:Addr).add n=⟨g,o+n,none⟩:=by
 unfold Addr.add
 by_cases h:n=0<;>simp [h]
theorem block_lt {w:World} {a:Addr} {v:Value} (h:w.cell? a=some v):a.block<w.heap.size:=by
 rcases Nat.lt_or_ge a.block w.heap.size with hlt | hge
 ·exact hlt
 ·unfold World.cell? at h;rw [Array.getElem?_eq_none hge] at h;cases h
def Qt (w w':World):Prop:=∃ n,w'=w.drewN n
theorem Qt.refl (w:World):Qt w w:=⟨0,rfl⟩
theorem Qt.below {w w':World} (h:Qt w w') (B:Nat):Below B w w':=by
 obtain ⟨n,rfl⟩:=h
 exact ⟨rfl,rfl,rfl,Nat.le_refl _,fun _ _=>rfl⟩
theorem lV {P:Program} {f:FuncId} {args:Array Value} {w:World} {v:Value} (h:Calls P f args w fun e w'=>e = .returned v/\w=w'):Calls P f args w fun e w''=>e = .returned v/\∃ m,w''=w.drewN m :=
 h.mono fun _ _ ⟨he,hm⟩=>⟨he,0,by rw [← hm];rfl⟩
theorem jl {P:Program} {f:FuncId} {args:Array Value} {w:World} {v:Value} {a n:Nat} (h:Calls P f args (w.drewN (a+n)) fun e w'=>e = .returned v/\w.drewN (a+n)=w'):Calls P f args (w.drewN (a+n)) fun e w''=>e = .returned v/\∃ m,w''=w.drewN (a+m) :=
 h.mono fun _ _ ⟨he,hm⟩=>⟨he,n,hm.symm⟩
theorem jm {P:Program} {f:FuncId} {args:Array Value} {w:World} {v:Value} {n:Nat} (h:Calls P f args (w.drewN n) fun e w'=>e = .returned v/\w.drewN n=w'):Calls P f args (w.drewN n) fun e w''=>e = .returned v/\∃ m,w''=w.drewN m :=
 h.mono fun _ _ ⟨he,hm⟩=>⟨he,n,hm.symm⟩
theorem lW {P:Program} {f:FuncId} {args:Array Value} {w:World} {v:Value} {n:Nat} (h:Calls P f args (w.drewN n) fun e w'=>e = .returned v/\Qt (w.drewN n) w'):Calls P f args (w.drewN n) fun e w''=>e = .returned v/\∃ m,w''=w.drewN m :=
 h.mono fun _ _ ⟨he,m,hm⟩=>⟨he,n+m,by rw [hm,World.drewN_drewN]⟩
theorem lX {P:Program} {f:FuncId} {args:Array Value} {w:World} {v:Value} {a n:Nat} (h:Calls P f args (w.drewN (a+n)) fun e w'=>e = .returned v/\Qt (w.drewN (a+n)) w'):Calls P f args (w.drewN (a+n)) fun e w''=>e = .returned v/\∃ m,w''=w.drewN (a+m) :=
 h.mono fun _ _ ⟨he,m,hm⟩=>⟨he,n+m,by rw [hm,World.drewN_drewN,Nat.add_assoc]⟩
def RdV (w:World) (A:Option Addr) (vs:List Value):Prop :=
 vs≠[]->∃ ad,A=some ad/\∀ j (h:j<vs.length),w.cell? (ad.add j)=some vs[j]
def SlI (w:World) (u:Value) (xs:List Int):Prop :=
 ∃ A c,u = .slice A xs.length c/\xs.length<=c/\c<=9223372036854775807/\RdV w A (xs.map (Value.int .i64))
def SlO {α:Type} (R:World->Value->α->Prop) (w:World) (u:Value) (xs:List α):Prop :=
 ∃ A c us,u = .slice A xs.length c/\xs.length<=c/\c<=9223372036854775807/\us.length=xs.length/\RdV w A us/\∀ (j:Nat) (h:j<us.length) (h':j<xs.length),R w us[j] xs[j]
abbrev kV:=SlO SlI
section
variable {w w':World} {A:Option Addr} {vs:List Value} {u:Value} {xs:List Int}
theorem RdV.below (h:RdV w A vs) (hb:Below w.heap.size w w'):RdV w' A vs:=fun hn=>by
 obtain ⟨ad,e,hc⟩:=h hn
 exact ⟨ad,e,fun j hj=>(hb.cell (block_lt (hc j hj))).trans (hc j hj)⟩
theorem RdV.drewN (h:RdV w A vs) (n:Nat):RdV (w.drewN n) A vs:=h
theorem RdV.at_ (h:RdV w A vs) {j:Nat} (hj:j<vs.length):∃ ad,A=some ad/\w.cell? (ad.add j)=some vs[j]:=by
 obtain ⟨ad,e,hc⟩:=h (by rintro rfl;simp at hj)
 exact ⟨ad,e,hc j hj⟩
theorem SlI.below (h:SlI w u xs) (hb:Below w.heap.size w w'):SlI w' u xs:=by
 obtain ⟨A,c,e,h1,h2,h3⟩:=h
 exact ⟨A,c,e,h1,h2,h3.below hb⟩
theorem SlI.drewN (h:SlI w u xs) (n:Nat):SlI (w.drewN n) u xs:=h
theorem SlI.len (h:SlI w u xs):xs.length<=9223372036854775807:=by
 obtain ⟨A,c,e,h1,h2,_⟩:=h
 omega
theorem SlI.view (h:SlI w u xs):∃ A c,u = .slice A xs.length c/\xs.length<=c/\c<=9223372036854775807 /\
  ∀ j (hj:j<xs.length),∃ ad,A=some ad/\w.cell? (ad.add j)=some (.int .i64 xs[j]):=by
 obtain ⟨A,c,e,h1,h2,h3⟩:=h
 refine ⟨A,c,e,h1,h2,fun j hj =>?_⟩
 obtain ⟨ad,e',hc⟩:=h3.at_ (j:=j) (by simpa using hj)
 exact ⟨ad,e',by rw [hc];simp⟩
theorem SlO.below {α:Type} {R:World->Value->α->Prop} {xs:List α} (hR:∀ {u x},R w u x->Below w.heap.size w w'->R w' u x) (h:SlO R w u xs) (hb:Below w.heap.size w w'):SlO R w' u xs:=by
 obtain ⟨A,c,us,e,h1,h2,h3,h4,h5⟩:=h
 exact ⟨A,c,us,e,h1,h2,h3,h4.below hb,fun j h h'=>hR (h5 j h h') hb⟩
theorem SlO.len {α:Type} {R:World->Value->α->Prop} {xs:List α} (h:SlO R w u xs):xs.length<=9223372036854775807:=by
 obtain ⟨A,c,us,e,h1,h2,_⟩:=h
 omega
theorem SlO.view {α:Type} {R:World->Value->α->Prop} {xs:List α} (h:SlO R w u xs):∃ A c,u = .slice A xs.length c/\xs.length<=c/\c<=9223372036854775807 /\
  ∀ j (hj:j<xs.length),∃ ad v,A=some ad/\w.cell? (ad.add j)=some v/\R w v xs[j]:=by
 obtain ⟨A,c,us,e,h1,h2,h3,h4,h5⟩:=h
 refine ⟨A,c,e,h1,h2,fun j hj =>?_⟩
 obtain ⟨ad,e',hc⟩:=h4.at_ (j:=j) (by omega)
 exact ⟨ad,_,e',hc,h5 j (by omega) hj⟩
theorem kV.below {xss:List (List Int)} (h:kV w u xss) (hb:Below w.heap.size w w'):kV w' u xss:=SlO.below (fun h hb=>SlI.below h hb) h hb
end
def InB (lo hi:Nat) (u:Value):Prop:=∀ g,u.ownBlock=some g->lo<=g/\g<hi
def afa (w:World) (u:Value) (xs:List Int):Prop:=w.ownsRow 0 3 1 u xs.length (xs.map (Value.int .i64))
def OwI (w:World) (lo hi:Nat) (u:Value) (xs:List Int):Prop:=afa w u xs/\InB lo hi u
def Apart (us:List Value):Prop:=us.Pairwise fun a b=>∀ g,a.ownBlock=some g->b.ownBlock≠some g
def OwO {α:Type} (e:Nat) (R:World->Value->α->Prop) (w:World) (lo hi:Nat) (u:Value) (xs:List α):Prop :=
 ∃ us:List Value,us.length=xs.length/\w.ownsRow 0 e 1 u xs.length us/\(∀ (j:Nat) (h:j<us.length) (h':j<xs.length),R w us[j] xs[j])/\Apart (u::us)/\∀ v∈u::us,InB lo hi v
structure Frm (lo hi:Nat) (w w':World):Prop where
 os:w'.os=w.os
 tape:w'.tape=w.tape
 output:w'.output=w.output
 size:w.heap.size<=w'.heap.size
 block:∀ k,k<w.heap.size->k<lo\/hi<=k->w'.heap[k]? = w.heap[k]?
section
variable {w w' w'':World} {u:Value} {lo hi lo' hi' B:Nat}
theorem Frm.mono (h:Frm lo hi w w') (h1:lo'<=lo) (h2:hi<=hi'):Frm lo' hi' w w' :=
 ⟨h.os,h.tape,h.output,h.size,fun k hk ho=>h.block k hk (by omega)⟩
theorem Frm.drewN (h:Frm lo hi w w') (n:Nat):Frm lo hi w (w'.drewN n):=⟨h.os,h.tape,h.output,h.size,h.block⟩
theorem below_drewN (h:Below B w w') (n:Nat):Below B w (w'.drewN n):=⟨h.os,h.tape,h.output,h.size,h.block⟩
theorem BQ (w:World) (B n:Nat):Below B w (w.drewN n):=below_drewN (Below.refl _ _) n
theorem OU {W w1:World} (hb:Below W.heap.size W w1):(∀ b o,b<W.heap.size->w1.cell? ⟨b,o,none⟩=W.cell? ⟨b,o,none⟩)/\(∀ b o,b<W.heap.size->w1.frozen? ⟨b,o,none⟩=W.frozen? ⟨b,o,none⟩) :=
 ⟨fun b o h=>hb.cell (p:=⟨b,o,none⟩) h,fun b o h=>hb.frozen (p:=⟨b,o,none⟩) h⟩
theorem lg (h:Below B w w') (h':Below w'.heap.size w' w'') (hB:B<=w.heap.size):Below B w w'':=h.trans (h'.mono (Nat.le_trans hB h.size))
theorem NZ {base e size n:Nat} {xs:List Value} (h:w.ownsRow base e size u n xs) {g:Nat} (hg:u.ownBlock=some g):g<w.heap.size:=by
 rcases h.2 with ⟨rfl,_⟩ | ⟨g',cap,cur,rfl,_,hh,_⟩
 ·simp [Value.ownBlock] at hg
 ·simp [Value.ownBlock] at hg
  subst hg
  exact (Array.getElem?_eq_some_iff.1 hh).1
theorem Ko (h:InB lo hi u) (h1:lo'<=lo) (h2:hi<=hi'):InB lo' hi' u:=fun g hg=>by have:=h g hg;omega
theorem OwI.lt {xs:List Int} (h:OwI w lo hi u xs) {g:Nat} (hg:u.ownBlock=some g):g<w.heap.size:=NZ h.1 hg
theorem OwI.drewN {xs:List Int} (h:OwI w lo hi u xs) (n:Nat):OwI (w.drewN n) lo hi u xs:=h
theorem OwI.mono {xs:List Int} (h:OwI w lo hi u xs) (h1:lo'<=lo) (h2:hi<=hi'):OwI w lo' hi' u xs:=⟨h.1,Ko h.2 h1 h2⟩
theorem OwI.free {xs:List Int} {g n cap:Nat} (h:OwI w lo hi (.slice (some ⟨g,0,none⟩) n cap) xs) (hn:n=xs.length) (j:Nat):w.frozen? ⟨g,j,none⟩=false:=by
 subst hn
 exact World.ownsRow.frozenAt h.1 j
section
variable {α:Type} {R:World->Value->α->Prop} {e:Nat} {xs:List α}
theorem OwO.mono (h:OwO e R w lo hi u xs) (h1:lo'<=lo) (h2:hi<=hi'):OwO e R w lo' hi' u xs:=by
 obtain ⟨us,k1,k2,k3,k4,k5⟩:=h
 exact ⟨us,k1,k2,k3,k4,fun v hv=>Ko (k5 v hv) h1 h2⟩
theorem OwO.free {g n cap:Nat} (h:OwO e R w lo hi (.slice (some ⟨g,0,none⟩) n cap) xs) (hn:n=xs.length) (j:Nat):w.frozen? ⟨g,j,none⟩=false:=by
 subst hn
 obtain ⟨us,k1,k2,_⟩:=h
 exact k2.frozenAt j
end
def Live (w:World) (L:List (Addr×Value)):Prop:=∀ p∈L,w.cell? p.1=some p.2
theorem Live.cells {L:List (Addr×Value)} (h:Live w L):L.foldr (fun p q=>w.cell? p.1=some p.2/\q) True:=by
 induction L with
 | nil=>trivial
 | cons p L ih=>exact ⟨h p (by simp),ih fun q hq=>h q (by simp [hq])⟩
theorem Bq {w:World} {b:Nat} {x y u0 u1:Value} (h0:w.cell? ⟨b,0,none⟩=some u0) (h1:w.cell? ⟨b,1,none⟩=some u1) :
  ((w.setCell ⟨b,0,none⟩ x).setCell ⟨b,1,none⟩ y).cell? ⟨b,0,none⟩=some x/\((w.setCell ⟨b,0,none⟩ x).setCell ⟨b,1,none⟩ y).cell? ⟨b,1,none⟩=some y:=by
 have h1':(w.setCell ⟨b,0,none⟩ x).cell? ⟨b,1,none⟩=some u1:=(World.cell?_setCell_other _ _ _ _ (by simp)).trans h1
 have h0':(w.setCell ⟨b,0,none⟩ x).cell? ⟨b,0,none⟩=some x:=World.cell?_setCell_same _ _ _ h0
 exact ⟨(World.cell?_setCell_other _ _ _ _ (by simp)).trans h0',World.cell?_setCell_same _ _ _ h1'⟩
end
def rng (n lo hi:Int):Bool:=decide (lo<=n/\n<=hi)
theorem uP {n lo hi:Int} (h1:lo<=n) (h2:n<=hi):rng n lo hi=true:=decide_eq_true ⟨h1,h2⟩
theorem zO {n lo hi:Int} (h:n<lo\/hi<n):rng n lo hi=false:=decide_eq_false (by omega)
theorem jf {n lo hi:Int}:rng n lo hi=true↔lo<=n/\n<=hi:=by simp [rng]
theorem fB (w:World) (n lo hi:Int):Calls Tryz.prog 118 #[.int .i64 n,.int .i64 lo,.int .i64 hi] w fun e w'=>e = .returned (.bool (rng n lo hi))/\w=w':=by
 by_cases h1:lo<=n
 ·by_cases h2:n<=hi
  ·have hd:decide (n<=hi)=true:=by simpa using h2
   rw [uP h1 h2]
   go_enter Tryz.func118,Tryz.ntmps118
   go_wp2
   go_ret
   exact ⟨by simp,rfl⟩
  ·have hd:decide (n<=hi)=false:=by simpa using h2
   rw [zO (.inr (by omega))]
   go_enter Tryz.func118,Tryz.ntmps118
   go_wp2
   go_ret
   exact ⟨by simp,rfl⟩
 ·have hd:decide (lo<=n)=false:=by simpa using h1
  rw [zO (.inl (by omega))]
  go_enter Tryz.func118,Tryz.ntmps118
  go_wp2
  go_ret
  exact ⟨by simp,rfl⟩
theorem gX (w:World) (n lo hi:Int) (h1:lo<=n) (h2:n<=hi):Calls Tryz.prog 118 #[.int .i64 n,.int .i64 lo,.int .i64 hi] w fun e w'=>e = .returned (.bool true)/\w=w' :=
 (fB w n lo hi).mono fun _ _ ⟨h,h'⟩=>⟨by rw [h,uP h1 h2],h'⟩
theorem iL (w:World) (n lo hi:Int) (h:n<lo\/hi<n):Calls Tryz.prog 118 #[.int .i64 n,.int .i64 lo,.int .i64 hi] w fun e w'=>e = .returned (.bool false)/\w=w' :=
 (fB w n lo hi).mono fun _ _ ⟨h1,h'⟩=>⟨by rw [h1,zO h],h'⟩
theorem dX (w:World) (n lo hi:Int):Calls Tryz.prog 117 #[.int .i64 n,.int .i64 lo,.int .i64 hi] w fun e w'=>e = .returned (.bool (rng n lo hi))/\w=w':=by
 by_cases h1:lo<=n
 ·by_cases h2:n<=hi
  ·have hd:decide (n<=hi)=true:=by simpa using h2
   rw [uP h1 h2]
   go_enter Tryz.func117,Tryz.ntmps117
   go_wp2
   go_ret
   exact ⟨by simp,rfl⟩
  ·have hd:decide (n<=hi)=false:=by simpa using h2
   rw [zO (.inr (by omega))]
   go_enter Tryz.func117,Tryz.ntmps117
   go_wp2
   go_ret
   exact ⟨by simp,rfl⟩
 ·have hd:decide (lo<=n)=false:=by simpa using h1
  rw [zO (.inl (by omega))]
  go_enter Tryz.func117,Tryz.ntmps117
  go_wp2
  go_ret
  exact ⟨by simp,rfl⟩
theorem jB (w:World) (n lo hi:Int) (h1:lo<=n) (h2:n<=hi):Calls Tryz.prog 117 #[.int .i64 n,.int .i64 lo,.int .i64 hi] w fun e w'=>e = .returned (.bool true)/\w=w' :=
 (dX w n lo hi).mono fun _ _ ⟨h,h'⟩=>⟨by rw [h,uP h1 h2],h'⟩
theorem kR (w:World) (n lo hi:Int) (h:n<lo\/hi<n):Calls Tryz.prog 117 #[.int .i64 n,.int .i64 lo,.int .i64 hi] w fun e w'=>e = .returned (.bool false)/\w=w' :=
 (dX w n lo hi).mono fun _ _ ⟨h1,h'⟩=>⟨by rw [h1,zO h],h'⟩
def idxOf {α:Type} (p:α->Bool) (xs:List α):Int:=match xs.findIdx? p with | some i=>(i:Int) | none => -1
theorem gW {α:Type} {p:α->Bool} {xs:List α} (h:∀ x∈xs,p x=false):idxOf p xs = -1:=by
 unfold idxOf
 rw [List.findIdx?_eq_none_iff.2 h]
theorem fZ {α:Type} {p:α->Bool} {xs:List α} {k:Nat} (hk:k<xs.length) (h:p xs[k]=true) (h':∀ x∈xs.take k,p x=false):idxOf p xs=k:=by
 unfold idxOf
 have:xs.findIdx? p=some k:=by
  rw [List.findIdx?_eq_some_iff_getElem]
  refine ⟨hk,h,fun j hj =>?_⟩
  have:=h' xs[j] (List.mem_take_iff_getElem.2 ⟨j,by omega,rfl⟩)
  simp [this]
 rw [this]
theorem zy {α:Type} (p:α->Bool) (xs:List α):decide (0<=idxOf p xs)=xs.any p:=by
 unfold idxOf
 cases h:xs.findIdx? p with
 | none =>
  rw [List.findIdx?_eq_none_iff] at h
  have:xs.any p=false:=by simpa using h
  rw [this]
  rfl
 | some i =>
  rw [List.findIdx?_eq_some_iff_getElem] at h
  have:xs.any p=true:=List.any_eq_true.2 ⟨_,List.getElem_mem h.1,h.2.1⟩
  rw [this]
  simp
def Enters (P:Program) (K:FuncId):Prop:=∀ (av:Array Value) (W:World),(callFunc K av).run P W = .ok (.enter K av) W
set_option maxHeartbeats 1000000 in
theorem CZ (w:World) (u:Value) (xs:List Int) (K:FuncId) (cap:Array Value) (p:Int->Bool) (hK:Enters Tryz.prog K) (hx:SlI w u xs)
  (hf:∀ W,Below w.heap.size w W->∀ (j:Nat) (hj:j<xs.length) (v:Value),v = .int .i64 xs[j]->Calls Tryz.prog K (#[v]++cap) W fun e W'=>e = .returned (.bool (p xs[j]))/\Below W.heap.size W W') :
  Calls Tryz.prog 170 #[u,.func (.func K) #[] cap] w fun e w'=>e = .returned (.int .i64 (idxOf p xs))/\Below w.heap.size w w':=by
 have hlen:=hx.len
 obtain ⟨A,c,rfl,hc1,hc2,hcell⟩:=hx.view
 have HK:=hide hK
 have HF:=hide hf
 clear hK hf hx
 go_enter Tryz.func170,Tryz.ntmps170
 go_wp2
 go_loopw [8] (fun i wr=>∃ k:Nat,k<=xs.length/\i = .int .i64 k/\Hid (∀ x∈xs.take k,p x=false)/\Below w.heap.size w wr) (fun i _=>xs.length-(intOf i).toNat)
 case atStart=>exact ⟨0,Nat.zero_le _,rfl,(fun x h=>by simp at h),Below.refl _ _⟩
 case round =>
  obtain ⟨k,hk,rfl,hN,hB⟩:=hrel
  by_cases hlt:k<xs.length
  ·obtain ⟨ad,rfl,hc⟩:=hcell k hlt
   have hc':=(hB.cell (block_lt hc)).trans hc
   cases hp:p xs[k]
   ·have HP:=hide hp
    have HE:∀ (av:Array Value) (W:World),(callFunc K av).run Tryz.prog W = .ok (.enter K av) W:=HK.out
    clear hp hc hcell
    go_wp2_with ((with_reducible refine (HF.out _ hB k hlt _ rfl).mono ?_);rintro e w2 ⟨rfl,hb2⟩;rw [HP.out];dsimp only)
    go_roundw
    case rel =>
     refine ⟨k+1,by omega,by go_num,?_,lg hB hb2 (Nat.le_refl _)⟩
     intro x hx
     rw [List.take_succ_eq_append_getElem hlt] at hx
     rcases List.mem_append.1 hx with hx | hx
     ·exact hN.out x hx
     ·simp at hx
      rw [hx]
      exact HP.out
    case measure=>simp [intOf];omega
   ·have HP:=hide hp
    have HE:∀ (av:Array Value) (W:World),(callFunc K av).run Tryz.prog W = .ok (.enter K av) W:=HK.out
    clear hp hc hcell
    go_wp2_with ((with_reducible refine (HF.out _ hB k hlt _ rfl).mono ?_);rintro e w2 ⟨rfl,hb2⟩;rw [HP.out];dsimp only)
    go_ret
    exact ⟨by rw [fZ hlt HP.out hN.out];rfl,lg hB hb2 (Nat.le_refl _)⟩
  ·go_wp2
   go_ret
   obtain rfl:k=xs.length:=by omega
   have h1:=hN.out
   rw [List.take_of_length_le (Nat.le_refl _)] at h1
   exact ⟨by rw [gW h1];rfl,hB⟩
theorem oJ (w:World) (u:Value) (xs:List Int) (K:FuncId) (cap:Array Value) (p:Int->Bool) (hK:Enters Tryz.prog K) (hx:SlI w u xs)
  (hf:∀ W,Below w.heap.size w W->∀ (j:Nat) (hj:j<xs.length) (v:Value),v = .int .i64 xs[j]->Calls Tryz.prog K (#[v]++cap) W fun e W'=>e = .returned (.bool (p xs[j]))/\Below W.heap.size W W') :
  Calls Tryz.prog 136 #[u,.func (.func K) #[] cap] w fun e w'=>e = .returned (.bool (xs.any p))/\Below w.heap.size w w':=by
 have H:=hide (CZ w u xs K cap p hK hx hf)
 clear hf hx hK
 have HA:=hide (zy p xs)
 go_enter Tryz.func136,Tryz.ntmps136
 go_wp2_with ((with_reducible refine H.out.mono ?_);rintro e w2 ⟨rfl,hb2⟩;dsimp only)
 go_ret
 exact ⟨by rw [← HA.out];rfl,hb2⟩
set_option maxHeartbeats 1000000 in
theorem Aw (w:World) (u:Value) (xs:List (List Int)) (K:FuncId) (cap:Array Value) (p:(List Int)->Bool) (hK:Enters Tryz.prog K) (hx:kV w u xs)
  (hf:∀ W,Below w.heap.size w W->∀ (j:Nat) (hj:j<xs.length) (v:Value),SlI w v xs[j]->Calls Tryz.prog K (#[v]++cap) W fun e W'=>e = .returned (.bool (p xs[j]))/\Below W.heap.size W W') :
  Calls Tryz.prog 143 #[u,.func (.func K) #[] cap] w fun e w'=>e = .returned (.int .i64 (idxOf p xs))/\Below w.heap.size w w':=by
 have hlen:=SlO.len hx
 obtain ⟨A,c,rfl,hc1,hc2,hcell⟩:=SlO.view hx
 have HK:=hide hK
 have HF:=hide hf
 clear hK hf hx
 go_enter Tryz.func143,Tryz.ntmps143
 go_wp2
 go_loopw [8] (fun i wr=>∃ k:Nat,k<=xs.length/\i = .int .i64 k/\Hid (∀ x∈xs.take k,p x=false)/\Below w.heap.size w wr) (fun i _=>xs.length-(intOf i).toNat)
 case atStart=>exact ⟨0,Nat.zero_le _,rfl,(fun x h=>by simp at h),Below.refl _ _⟩
 case round =>
  obtain ⟨k,hk,rfl,hN,hB⟩:=hrel
  by_cases hlt:k<xs.length
  ·obtain ⟨ad,v,rfl,hc,hv⟩:=hcell k hlt
   have hc':=(hB.cell (block_lt hc)).trans hc
   cases hp:p xs[k]
   ·have HP:=hide hp
    have HE:∀ (av:Array Value) (W:World),(callFunc K av).run Tryz.prog W = .ok (.enter K av) W:=HK.out
    clear hp hc hcell
    go_wp2_with ((with_reducible refine (HF.out _ hB k hlt _ hv).mono ?_);rintro e w2 ⟨rfl,hb2⟩;rw [HP.out];dsimp only)
    go_roundw
    case rel =>
     refine ⟨k+1,by omega,by go_num,?_,lg hB hb2 (Nat.le_refl _)⟩
     intro x hx
     rw [List.take_succ_eq_append_getElem hlt] at hx
     rcases List.mem_append.1 hx with hx | hx
     ·exact hN.out x hx
     ·simp at hx
      rw [hx]
      exact HP.out
    case measure=>simp [intOf];omega
   ·have HP:=hide hp
    have HE:∀ (av:Array Value) (W:World),(callFunc K av).run Tryz.prog W = .ok (.enter K av) W:=HK.out
    clear hp hc hcell
    go_wp2_with ((with_reducible refine (HF.out _ hB k hlt _ hv).mono ?_);rintro e w2 ⟨rfl,hb2⟩;rw [HP.out];dsimp only)
    go_ret
    exact ⟨by rw [fZ hlt HP.out hN.out];rfl,lg hB hb2 (Nat.le_refl _)⟩
  ·go_wp2
   go_ret
   obtain rfl:k=xs.length:=by omega
   have h1:=hN.out
   rw [List.take_of_length_le (Nat.le_refl _)] at h1
   exact ⟨by rw [gW h1];rfl,hB⟩
theorem nH (w:World) (u:Value) (xs:List (List Int)) (K:FuncId) (cap:Array Value) (p:(List Int)->Bool) (hK:Enters Tryz.prog K) (hx:kV w u xs)
  (hf:∀ W,Below w.heap.size w W->∀ (j:Nat) (hj:j<xs.length) (v:Value),SlI w v xs[j]->Calls Tryz.prog K (#[v]++cap) W fun e W'=>e = .returned (.bool (p xs[j]))/\Below W.heap.size W W') :
  Calls Tryz.prog 110 #[u,.func (.func K) #[] cap] w fun e w'=>e = .returned (.bool (xs.any p))/\Below w.heap.size w w':=by
 have H:=hide (Aw w u xs K cap p hK hx hf)
 clear hf hx hK
 have HA:=hide (zy p xs)
 go_enter Tryz.func110,Tryz.ntmps110
 go_wp2_with ((with_reducible refine H.out.mono ?_);rintro e w2 ⟨rfl,hb2⟩;dsimp only)
 go_ret
 exact ⟨by rw [← HA.out];rfl,hb2⟩
end Go.Proofs.YtkcelmnbfbehbaaGreat
