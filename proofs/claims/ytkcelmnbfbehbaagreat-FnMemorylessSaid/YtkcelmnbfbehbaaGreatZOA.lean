/- Tables of distances: the plain laws. Conditions: none. -/
import Derived.Test.YtkcelmnbfbehbaaGreatME
import Derived.Laws.CopyOwn
import Derived.Deep.OwnRows
set_option linter.all false
namespace Go.Proofs.YtkcelmnbfbehbaaGreat
def at2 (m:List (List Int)) (x y:Nat):Int:=(m.getD x []).getD y 0
theorem L6 {m:List (List Int)} {x y:Nat} (hx:x<m.length) (hy:y<m[x].length):at2 m x y=m[x][y]:=by
 unfold at2
 rw [List.getD_eq_getElem?_getD,List.getD_eq_getElem?_getD,List.getElem?_eq_getElem hx]
 show ((m[x])[y]?).getD 0=_
 rw [List.getElem?_eq_getElem hy]
 rfl
def kX (n:Nat) (p:Nat->Bool):Bool:=(List.range n).all p
theorem bg {n:Nat} {p:Nat->Bool}:kX n p=true↔∀ i,i<n->p i=true:=by simp [kX]
theorem qc {n:Nat} {p:Nat->Bool} {i:Nat} (hi:i<n) (h:p i=false):kX n p=false:=by
 rw [Bool.eq_false_iff]
 intro hh
 rw [bg.1 hh i hi] at h
 cases h
theorem cZ {p:Nat->Bool} {k:Nat} (h:∀ i,i<k->p i=true) (hk:p k=true):∀ i,i<k+1->p i=true:=fun i hi=>by
 rcases Nat.lt_or_ge i k with h1 | h1
 ·exact h i h1
 ·have:i=k:=by omega
  subst this
  exact hk
def gG (m:List (List Int)) (x y:Nat):Bool:=decide (at2 m x y=at2 m y x/\(x=y->at2 m x y=0)/\(x≠y->1<=at2 m x y/\at2 m x y<=99))
theorem vS {m:List (List Int)} {x y:Nat}:gG m x y=true↔at2 m x y=at2 m y x/\(x=y->at2 m x y=0)/\(x≠y->1<=at2 m x y/\at2 m x y<=99):=by unfold gG;exact decide_eq_true_iff
def sqB (m:List (List Int)):Bool:=m.all fun r=>r.length == m.length
theorem Bo {m:List (List Int)}:sqB m=true↔∀ r∈m,r.length=m.length:=by simp [sqB]
theorem acY {m:List (List Int)} {k:Nat} (hk:k<m.length) (h:m[k].length≠m.length):sqB m=false:=by
 rw [Bool.eq_false_iff]
 intro hh
 exact h (Bo.1 hh _ (List.getElem_mem hk))
def yO (m:List (List Int)):Bool:=kX m.length fun x=>kX m.length (gG m x)
theorem Qx {m:List (List Int)} {x y:Nat} (hx:x<m.length) (hy:y<m.length) (h:gG m x y=false):yO m=false:=qc hx (qc hy h)
def jY (m:List (List Int)) (x y z:Nat):Bool:=decide (at2 m x z<=at2 m x y+at2 m y z)
def nS (m:List (List Int)):Bool:=kX m.length fun x=>kX m.length fun y=>kX m.length (jY m x y)
theorem KW {m:List (List Int)} {x y z:Nat} (hx:x<m.length) (hy:y<m.length) (hz:z<m.length) (h:jY m x y z=false):nS m=false:=qc hx (qc hy (qc hz h))
theorem Gz {m:List (List Int)} (h:yO m=true) {x y:Nat} (hx:x<m.length) (hy:y<m.length):0<=at2 m x y/\at2 m x y<=99:=by
 have:=vS.1 (bg.1 (bg.1 h x hx) y hy)
 by_cases e:x=y
 ·have:=this.2.1 e
  omega
 ·have:=this.2.2 e
  omega
end Go.Proofs.YtkcelmnbfbehbaaGreat
namespace Go.Proofs.YtkcelmnbfbehbaaGreat
open Go.RowKit
def allIn (lo hi:Int) (xs:List Int):Bool:=xs.all fun x=>rng x lo hi
theorem yX {lo hi:Int} {xs:List Int}:allIn lo hi xs=true↔∀ x∈xs,lo<=x/\x<=hi:=by simp [allIn,rng]
theorem Jg {lo hi:Int} {xs:List Int} {x:Int} (h:x∈xs) (hx:rng x lo hi=false):allIn lo hi xs=false:=by
 rw [Bool.eq_false_iff]
 intro hh
 have:=yX.1 hh x h
 rw [uP this.1 this.2] at hx
 cases hx
theorem aY {w w':World} {a:Addr} {v:Value} (hb:Below w.heap.size w w') (h:w.cell? a=some v):w'.cell? a=some v:=(hb.cell (block_lt h)).trans h
end Go.Proofs.YtkcelmnbfbehbaaGreat
namespace Go.Proofs.YtkcelmnbfbehbaaGreat
def EX (n:Nat) (s:List (List Int)) (r:Nat) (x:Int):Bool:=rng x 0 ((n:Int)-1) && decide (0<=at2 s r x.toNat)
def oW (n:Nat) (s:List (List Int)) (row:List Int):Bool:=(row.length == s.length) && kX row.length fun r=>EX n s r (row.getD r 0)
def pY (m s:List (List Int)) (next:List (List Int)):Bool:=(next.length == m.length) && next.all (oW m.length s)
theorem WW {n:Nat} {s:List (List Int)} {row:List Int} {r:Nat} (hr:r<row.length) (h:EX n s r row[r]=false):oW n s row=false:=by
 unfold oW
 rw [qc hr (by rw [List.getD_eq_getElem?_getD,List.getElem?_eq_getElem hr];exact h)]
 simp
theorem RP {n:Nat} {s:List (List Int)} {row:List Int} (h:row.length≠s.length):oW n s row=false:=by unfold oW;simp [h]
theorem RQ {n:Nat} {s:List (List Int)} {row:List Int} (h:row.length=s.length) (h2:∀ r (hr:r<row.length),EX n s r row[r]=true):oW n s row=true:=by
 unfold oW
 rw [bg.2 fun r hr=>by rw [List.getD_eq_getElem?_getD,List.getElem?_eq_getElem hr];exact h2 r hr]
 simp [h]
theorem dK {α:Type} (g:Nat->α) (d:α) {n x:Nat} (h:x<n):((List.range n).map g).getD x d=g x:=by
 rw [List.getD_eq_getElem?_getD,List.getElem?_map,List.getElem?_range h]
 rfl
theorem yF {α:Type} (g:Nat->α) (v:α) (n x:Nat):((List.range n).map g).set x v=(List.range n).map fun j=>if j=x then v else g j:=by
 refine List.ext_getElem? fun j =>?_
 rw [List.getElem?_set]
 by_cases h:j<n
 ·by_cases e:x=j
  ·subst e
   rw [if_pos rfl,if_pos (by simpa using h),List.getElem?_map,List.getElem?_range h]
   simp
  ·rw [if_neg e,List.getElem?_map,List.getElem?_map,List.getElem?_range h]
   have e2:¬ j=x:=fun e'=>e e'.symm
   simp [e2]
 ·rw [List.getElem?_map,List.getElem?_map,List.getElem?_eq_none (by simpa using h)]
  simp only [Option.map_none,List.length_map,List.length_range]
  split
  ·rw [if_neg (by omega)]
  ·rfl
theorem iW {α:Type} {g g':Nat->α} {n:Nat} (h:∀ j,j<n->g j=g' j):(List.range n).map g=(List.range n).map g':=List.map_congr_left fun j hj=>h j (by simpa using hj)
theorem eH {α:Type} {rs:List α} {k:Nat} (h:k<rs.length) (d:α):rs.take (k+1)=rs.take k++[rs.getD k d]:=by
 rw [List.take_succ_eq_append_getElem h]
 simp [h]
end Go.Proofs.YtkcelmnbfbehbaaGreat
namespace Go.Proofs.YtkcelmnbfbehbaaGreat
open Go Go.RowKit Am
theorem AV.Uz {φ φ':Nat->Value} {M:Am.Mem} {x:AV} {u:Value} (hf:x.free=true) (h:x.rel φ M u):x.rel φ' M u:=AV.oQ h fun y hy u hu=>Lf.jV (n:=0) (H8 hf 0 y hy) (fun i hi=>absurd hi (Nat.not_lt_zero i)) hu
theorem UQ:(Tryz.prog.info? 3).map (fun i=>(i.zero,i.size,i.bytes))=some (some (.int .i64 0),1,8):=by kernel_rfl
theorem Fp {P:Program} {f:Nat} {args:List AV} {e:Nat} {c:Cn} (hent:∀ (av:Array Value) (W:World),(callFunc f av).run P W = .ok (.enter f av) W)
  (h:∀ (M:Am.Mem) (w:World) (us:List Value),Mem.in_ M w->gu M args us->Calls P f us.toArray w fun ex w'=>∃ u vs,ex = .returned u/\w'.ownsRow 0 e c.w u c.len vs/\c.rel M vs/\(∀ g,blk u=some g->w.heap.size<=g/\g<w'.heap.size)/\Below w.heap.size w w') (hfree:args.all AV.free=true):bG P f args [] [] (.lf (.own 0)) [.row e c]:=by
 refine ⟨hent,fun φ β M w us hm ha=>(h M w us hm.mem ⟨ha.1,fun j h1 h2=>AV.Uz (List.all_eq_true.1 hfree _ (List.getElem_mem h1)) (ha.2 j h1 h2)⟩).mono ?_⟩
 rintro ex w' ⟨u,vs,rfl,h1,h2,h3,h4⟩
 refine ⟨u,fun _=>u,fun i g=>i=0/\blk u=some g,M,rfl,Am.Mem.le_refl _,fun ad v e => .inl e,⟨fun a v e =>?_,fun i o hi =>?_,fun i g hi hg a v e =>?_,fun i j g _ _ h5 h6=>h5.1.trans h6.1.symm,fun i g hi hg=>(h3 g hg.2).2,fun i o hi =>?_⟩,rfl,fun y hy =>?_,Nat.zero_le _,fun i hi=>by simp at hi,fun i g _ hg => .inl (h3 g hg.2).1,?_⟩
 ·have h5:=hm.mem a v e
  exact (h4.cell (block_lt h5)).trans h5
 ·match i,hi with
  | 0,hi =>
   simp at hi
   subst hi
   exact ⟨vs,h1,h2,fun g hg=>⟨rfl,hg⟩⟩
  | i+1,hi=>simp at hi
 ·have:=block_lt (hm.mem a v e)
  have:=(h3 g hg.2).1
  omega
 ·match i,hi with
  | 0,hi =>
   simp at hi
   subst hi
   trivial
  | i+1,hi=>simp at hi
 ·simp [AV.leaves,TV.leaves] at hy
  subst hy
  rfl
 ·exact ⟨h4.os,h4.tape,h4.output,h4.size,fun k hk _=>h4.block k hk⟩
theorem adk (w:List Int) (hw2:w.length<=1048576) (hw:0<w.length):bG Tryz.prog 128 [.sl (.ints w)] [] [] (.lf (.own 0)) [.row 3 (.ints w)]:=by
 refine bY Tryz.func128 rfl Tryz.ntmps128 aX (fun _ _=>by kernel_rfl) rfl rfl rfl ?_
 intro M0 w0 S φ0
 rw [Tryz.results128]
 (refine dJ 0 rfl fun hf =>?_;simp only [xp,simprocAttr] at hf;simp only [xf,simprocAttr] at hf)
 refine ah ?_
 refine aj amQ (fun hc =>?_) (fun hc =>?_)
 ·cases hc
 refine kY ?_
 refine ah ?_
 (simp only [aG,aN];refine dw [0] rfl ⟨rfl,trivial⟩ rfl rfl rfl rfl rfl ?_;try rfl)
theorem Ci (w:World) (t e c:Nat) (h:Tryz.prog.underlying t=some (.slice e)):(Op.equal t (.slice none 0 c) (.slice none 0 0)).run Tryz.prog w = .ok true w:=by
 have aux:∀ d,(Op.equalIn (d+1) t (.slice none 0 c) (.slice none 0 0)).run Tryz.prog w = .ok true w:=fun d=>by
  unfold Op.equalIn
  simp only [Sem.run_bind,run_underlying h,Result.andThen_ok,Sem.run_pure]
  rfl
 have e:Op.maxDepth=(Op.maxDepth-1)+1:=rfl
 unfold Op.equal
 rw [e]
 exact aux _
theorem Jt (w:World) (c:Nat):(binOp .eql 29 (.slice none 0 c) (.slice none 0 0)).run Tryz.prog w = .ok (.bool true) w:=by
 simp only [binOp,Ci w _ _ c Tryz.underlying29,Sem.run_bind,Sem.run_pure,Result.andThen_ok]
theorem Ju (w:World) (a:Addr) (c:Nat):(binOp .eql 29 (.slice (some a) 0 c) (.slice none 0 0)).run Tryz.prog w = .ok (.bool false) w:=by
 simp only [binOp,pO Tryz.underlying29,Sem.run_bind,Sem.run_pure,Result.andThen_ok]
set_option maxRecDepth 100000 in
theorem TK (w:World) (A:Option Addr) (c:Nat):Calls Tryz.prog 128 #[.slice A 0 c] w fun e w'=>∃ u,e = .returned u/\w'.ownsRow 0 3 1 u 0 []/\(∀ g,blk u=some g->w.heap.size<=g/\g<w'.heap.size)/\Below w.heap.size w w':=by
 cases A with
 | none =>
  go_enter Tryz.func128,Tryz.ntmps128
  go_wp2
  rw [Jt]
  go_wp2
  go_ret
  exact ⟨_,rfl,World.ownsRow_nil _ _ _ _,fun g hg=>(by simp [blk] at hg),Below.refl _ _⟩
 | some a =>
  go_enter Tryz.func128,Tryz.ntmps128
  go_wp2
  rw [Ju]
  go_wp2
  go_ret
  refine ⟨_,rfl,⟨rfl,.inr ⟨w.heap.size,0,#[],rfl,Nat.zero_le _,heap_alloc_new w _,Nat.le_refl _,by simp [maxLen],rfl,rfl⟩⟩,fun g hg =>?_,by repeat (first | exact Below.refl _ _ | apply Below.drew | refine Below.setCell ?_ (by first | (simp;done) | (simp;omega)) _ | refine Below.alloc ?_ (by first | (simp;done) | (simp;omega)) _)⟩
  obtain rfl:w.heap.size=g:=by simpa [blk] using hg
  simp
theorem adi (w:List Int) (hw2:w.length<=1048576):bG Tryz.prog 128 [.sl (.ints w)] [] [] (.lf (.own 0)) [.row 3 (.ints w)]:=by
 cases w with
 | cons x w=>exact adk (x::w) hw2 (by simp)
 | nil =>
  refine Fp (fun _ _=>by kernel_rfl) (fun M w us hm ha =>?_) rfl
  obtain ⟨u,us',rfl,h1,h2⟩:=dh ha
  obtain rfl:=iq h2
  have h1':(Am.B.sl (.ints [])).rel M u:=h1
  obtain ⟨vs,⟨A,cap,e3,k1,k2,k3⟩,k4⟩:=B.jo.1 h1'
  have e3:u = .slice A 0 cap:=e3
  subst e3
  refine (TK w A cap).mono ?_
  rintro e w' ⟨u,rfl,h3,h4,h5⟩
  exact ⟨u,[],rfl,h3,⟨trivial,rfl,fun j o hj _=>by simp [Cn.len] at hj⟩,h4,h5⟩
theorem DU (m:List (List Int)) (hm:m.length<=1000) (hr:∀ r∈m,r.length<=100):bG Tryz.prog 73 [.sl (.ii m)] [] [] (.lf (.own 0)) [.tree [29,3] (.ii m)]:=by
 refine bY Tryz.func73 rfl Tryz.ntmps73 aX (fun _ _=>by kernel_rfl) rfl rfl rfl ?_
 intro M0 w0 S φ0
 rw [Tryz.results73]
 refine ah ?_
 (refine kQ 0 3 [] rfl rfl rfl ?_;simp only [xu,simprocAttr])
 refine au (α:=Nat) (fun k=>[(9,true,.int k)]) [3,7,8] (fun k=>[.tree [29,3] (.ii (m.take k))]) (fun k=>k<=m.length) (fun k=>m.length-k) 0 (by exact aV) (Nat.zero_le _) fun k hk =>?_
 have hml:(m.take k).length<=k:=by rw [List.length_take];omega
 simp only [xr,simprocAttr]
 refine ah ?_
 refine aj amQ (fun hc =>?_) (fun hc =>?_)
 ·have hc:=of_decide_eq_true hc
  have hk':k<m.length:=by omega
  have hrl:(m.getD k []).length<=100:=by rw [getD_in hk'];exact hr _ (List.getElem_mem _)
  have hnx:=eH hk' []
  refine ah ?_
  (refine .inr (.inl (fU (adi (m.getD k []) (by omega)) rfl rfl rfl rfl rfl rfl rfl ?_));refine amC ?_)
  refine ah ?_
  refine ⟨k+1,by omega,by omega,.inr ⟨1,Nat.le_of_ble_eq_true rfl,aJ ?_ rfl rfl rfl⟩⟩
  exact bI (by rw [hnx];rfl)
 ·have hc:=of_decide_eq_false hc
  obtain rfl:k=m.length:=by omega
  rw [List.take_length]
  refine ah ?_
  (simp only [aG,aN];refine dw [0] rfl ⟨rfl,trivial⟩ rfl rfl rfl rfl rfl ?_;try rfl)
theorem PK (xs:List Int) (x:Int):Does Tryz.prog 74 [.sl (.ints xs),.int x] (.imm (.int (idxOf (fun y=>decide (x=y)) xs))):=by
 refine aC Tryz.func74 rfl Tryz.ntmps74 aX (fun _ _=>by kernel_rfl) rfl (Nat.le_of_ble_eq_true rfl) ?_
 intro M0 w0
 rw [Tryz.results74]
 (refine dJ 0 rfl fun hf =>?_;simp only [xp,simprocAttr] at hf;simp only [xf,simprocAttr] at hf)
 refine ah ?_
 refine au (α:=Nat) (fun k=>[(8,true,.int k)]) [0,1,7] (fun _=>[]) (fun k=>k<=xs.length/\∀ y∈xs.take k,decide (x=y)=false) (fun k=>xs.length-k) 0 (by exact dQ) ⟨Nat.zero_le _,by simp⟩ fun k hk =>?_
 obtain ⟨hk,hp⟩:=hk
 simp only [xr,simprocAttr]
 refine ah ?_
 refine aj amQ (fun hc =>?_) (fun hc =>?_)
 ·have hk':k<xs.length:=by have:=of_decide_eq_true hc;omega
  have hx:xs.getD k 0=xs[k]:=by simp [hk']
  refine ah ?_
  refine aj amQ (fun hd =>?_) (fun hd =>?_)
  ·refine ah ?_
   refine bV ?_
   rw [hx] at hd
   rw [fZ hk' (p:=fun y=>decide (x=y)) hd hp]
  ·refine ah ?_
   refine ⟨k+1,by omega,fun y hy =>?_,by omega,.inl ?_⟩
   ·rw [List.take_succ_eq_append_getElem hk',List.mem_append,List.mem_singleton] at hy
    rcases hy with hy | rfl
    ·exact hp y hy
    ·rw [← hx];exact hd
   ·exact dQ
 ·have hk':k=xs.length:=by have:=of_decide_eq_false hc;omega
  subst hk'
  rw [List.take_length] at hp
  refine ah ?_
  refine bV ?_
  rw [gW hp]
theorem PN (x:Int):Does Tryz.prog 163 [.int x] (.imm (.bool false)):=by
 refine aC Tryz.func163 rfl Tryz.ntmps163 aX (fun _ _=>by kernel_rfl) rfl (Nat.le_of_ble_eq_true rfl) ?_
 intro M0 w0
 rw [Tryz.results163]
 refine ah ?_
 refine bV ?_
 simp
def vT (x y:Int):Int:=if x<y then -1 else if y<x then 1 else 0
theorem MF (x y:Int):Does Tryz.prog 127 [.int x,.int y] (.imm (.int (vT x y))):=by
 refine aC Tryz.func127 rfl Tryz.ntmps127 aX (fun _ _=>by kernel_rfl) rfl (Nat.le_of_ble_eq_true rfl) ?_
 intro M0 w0
 rw [Tryz.results127]
 refine ah ?_
 ((try refine Or.inl ?_);refine ⟨_,(PN x),.inl rfl,?_⟩;refine amC ?_)
 refine ah ?_
 ((try refine Or.inl ?_);refine ⟨_,(PN y),.inl rfl,?_⟩;refine amC ?_)
 refine ah ?_
 refine aj amQ (fun h1 =>?_) (fun h1 =>?_)
 ·cases h1
 refine ah ?_
 refine aj amQ (fun h2 =>?_) (fun h2 =>?_)
 ·cases h2
 refine ah ?_
 refine aj amQ (fun h3 =>?_) (fun h3 =>?_)
 ·have h3:=of_decide_eq_true h3
  refine ah ?_
  refine bV ?_
  unfold vT
  rw [if_pos h3]
 have h3:=of_decide_eq_false h3
 refine ah ?_
 refine aj amQ (fun h4 =>?_) (fun h4 =>?_)
 ·have h4:=of_decide_eq_true h4
  refine ah ?_
  refine bV ?_
  unfold vT
  rw [if_neg h3,if_pos h4]
 have h4:=of_decide_eq_false h4
 refine ah ?_
 refine bV ?_
 unfold vT
 rw [if_neg h3,if_neg h4]
theorem sH (a b:Int×Int) (h1:I64 (a.1*b.2)) (h2:I64 (b.1*a.2)):Does Tryz.prog 72 [frA a,frA b] (.imm (.int (vT (a.1*b.2) (b.1*a.2)))):=by
 refine aC Tryz.func72 rfl Tryz.ntmps72 aX (fun _ _=>by kernel_rfl) rfl (Nat.le_of_ble_eq_true rfl) ?_
 intro M0 w0
 rw [Tryz.results72]
 refine ah ?_
 ((try refine Or.inl ?_);refine ⟨_,(MF _ _),.inl rfl,?_⟩;refine amC ?_)
 refine ah ?_
 refine bV ?_
 rfl
end Go.Proofs.YtkcelmnbfbehbaaGreat
