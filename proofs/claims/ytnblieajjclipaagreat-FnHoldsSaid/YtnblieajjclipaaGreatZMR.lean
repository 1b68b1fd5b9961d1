/- math/bits.Mul: the product of two words, in two words. Conditions: none. -/
import Derived.Shelf.Bits.Mul64
import Derived.Laws.CopyOwn
import Derived.Deep.OwnRows
import Derived.Test.YtnblieajjclipaaGreatGCT
set_option linter.all false
namespace Go.Proofs.YtnblieajjclipaaGreat
open Go.Shelf Go.RowKit
def ZI:Ren:=⟨fun n=>if n=212 then 160 else if n=263 then 182 else 183,fun n=>if n=46 then 196 else if n=51 then 216 else if n=53 then 87 else if n=146 then 217 else 219,fun n=>n⟩
theorem Yi:Lays.n212 Tryz.prog ZI where
 mixed:=by kernel_rfl
 f212:=by kernel_rfl
 f263:=by kernel_rfl
 f264:=by kernel_rfl
 t46:=by kernel_rfl
 a46:=fun _=>by kernel_rfl
 z46:=fun _=>by kernel_rfl
 v46:=fun _=>by kernel_rfl
 t51:=by kernel_rfl
 a51:=fun _=>by kernel_rfl
 z51:=fun _=>by kernel_rfl
 v51:=fun _=>by kernel_rfl
 t53:=by kernel_rfl
 a53:=fun _=>by kernel_rfl
 z53:=fun _=>by kernel_rfl
 v53:=fun _=>by kernel_rfl
 t146:=by kernel_rfl
 a146:=fun _=>by kernel_rfl
 z146:=fun _=>by kernel_rfl
 v146:=fun _=>by kernel_rfl
 t148:=by kernel_rfl
 a148:=fun _=>by kernel_rfl
 z148:=fun _=>by kernel_rfl
 v148:=fun _=>by kernel_rfl
theorem mul_any (x y:Nat) (hx:x<18446744073709551616) (hy:y<18446744073709551616) (w:World) :
  Calls Tryz.prog 160 #[.int .u64 x,.int .u64 y] w fun e w'=>e = .returned (.tuple #[.int .u64 ((x*y / 18446744073709551616:Nat):Int),.int .u64 ((x*y % 18446744073709551616:Nat):Int)])/\w'=w :=
 Any.bits_Mul Yi x y hx hy w
end Go.Proofs.YtnblieajjclipaaGreat
namespace Go.Proofs.YtnblieajjclipaaGreat
open Go Go.RowKit Am
theorem AV.UF {φ φ':Nat->Value} {M:Am.Mem} {x:AV} {u:Value} (hf:x.free=true) (h:x.rel φ M u):x.rel φ' M u:=AV.oD h fun y hy u hu=>Lf.jK (n:=0) (H7 hf 0 y hy) (fun i hi=>absurd hi (Nat.not_lt_zero i)) hu
theorem U1:(Tryz.prog.info? 3).map (fun i=>(i.zero,i.size,i.bytes))=some (some (.int .i64 0),1,8):=by kernel_rfl
theorem Ru {P:Program} {f:Nat} {args:List AV} {e:Nat} {c:Cn} (hent:∀ (av:Array Value) (W:World),(callFunc f av).run P W = .ok (.enter f av) W)
  (h:∀ (M:Am.Mem) (w:World) (us:List Value),Mem.in_ M w->fO M args us->Calls P f us.toArray w fun ex w'=>∃ u vs,ex = .returned u/\w'.ownsRow 0 e c.w u c.len vs/\c.rel M vs/\(∀ g,blk u=some g->w.heap.size<=g/\g<w'.heap.size)/\Below w.heap.size w w') (hfree:args.all AV.free=true):bP P f args [] [] (.lf (.own 0)) [.row e c]:=by
 refine ⟨hent,fun φ β M w us hm ha=>(h M w us hm.mem ⟨ha.1,fun j h1 h2=>AV.UF (List.all_eq_true.1 hfree _ (List.getElem_mem h1)) (ha.2 j h1 h2)⟩).mono ?_⟩
 rintro ex w' ⟨u,vs,rfl,h1,h2,h3,h4⟩
 refine ⟨u,fun _=>u,fun i g=>i=0/\blk u=some g,M,rfl,Am.Mem.le_refl _,fun ad v e => .inl e,⟨fun a v e =>?_,fun i o hi =>?_,fun i g hi hg a v e =>?_,fun i j g _ _ h5 h6=>h5.1.trans h6.1.symm,fun i g hi hg=>(h3 g hg.2).2,fun i o hi =>?_⟩,rfl,fun y hy =>?_,Nat.zero_le _,fun i hi=>by simp at hi,fun i g _ hg => .inl (h3 g hg.2).1,?_⟩
 ·have h5:=hm.mem a v e
  exact (h4.cell (block_lt h5)).trans h5
 ·match i,hi with
  | 0,hi =>
   simp at hi
   subst hi
   exact ⟨vs,h1,h2,fun g hg=>⟨rfl,hg⟩⟩
  | i+1,hi=>simp at hi
 ·have:=block_lt (hm.mem a v e)
  have:=(h3 g hg.2).1
  omega
 ·match i,hi with
  | 0,hi =>
   simp at hi
   subst hi
   trivial
  | i+1,hi=>simp at hi
 ·simp [AV.leaves,TV.leaves] at hy
  subst hy
  rfl
 ·exact ⟨h4.os,h4.tape,h4.output,h4.size,fun k hk _=>h4.block k hk⟩
theorem VB (n:Nat) (hn:n<=1000) (w:World):Calls Tryz.prog 160 #[.int .u64 1,.int .u64 n] w fun e w'=>e = .returned (.tuple #[.int .u64 0,.int .u64 n])/\w=w':=by
 have h:=mul_any 1 n (by omega) (by omega) w
 have e1:1*n / 18446744073709551616=0:=by omega
 have e2:1*n % 18446744073709551616=n:=by omega
 rw [e1,e2] at h
 exact h.mono fun _ _ h=>⟨h.1,h.2.symm⟩
theorem Jj {w:World} {ops:Array Oper} {rest:List Oper} {o:Oper} {a:Act} {Q:Exit->Act->World->Prop} (hg:o.guard=none) (l c:Operand) (hop:o.op=Op.makeSlice 26 l c) (n:Nat) (hn:n<=1000) (hl:a.eval l = .int .i64 n) (hc:a.eval c = .int .i64 n)
  (hK:∀ w1,Hid (w1.heap[w.heap.size]? = some (.cells (List.replicate n (Value.int .i64 0)).toArray 3 (0,0)))->Below w.heap.size w w1->wpList Tryz.prog ops Q rest (a.put o.dst (.slice (some ⟨w.heap.size,0,none⟩) n n)) w1):wpList Tryz.prog ops Q (o::rest) a w:=by
 obtain ⟨i0,hi0,hi1⟩:=Option.map_eq_some_iff.1 U1
 simp only [Prod.mk.injEq] at hi1
 obtain ⟨hi1,hi2,hi3⟩:=hi1
 refine wpList_make_row w hg l c 26 hop 3 i0 (.int .i64 0) Tryz.underlying26 hi0 hi1 hi2 rfl .i64 .i64 n hl hc (by rw [hi3];omega) (by omega) (hK _ (hide ?_) ((Below.refl _ _).alloc (Nat.le_refl _) _))
 rw [Go.Deep.blk_alloc_new,← toList_madeCells_one,Array.toArray_toList]
def wK (v:Int) (n k:Nat):List Value:=List.replicate k (.int .i64 v)++List.replicate (n-k) (.int .i64 0)
theorem WI {v:Int} {n k:Nat} (h:k<=n):(wK v n k).length=n:=by
 unfold wK
 rw [List.length_append,List.length_replicate,List.length_replicate]
 omega
theorem AO {v:Int} {n k m:Nat} (h:k+m<=n):splice (wK v n k) k (List.replicate m (.int .i64 v))=wK v n (k+m):=by
 unfold wK splice
 rw [List.take_append_of_le_length (by simp),List.take_of_length_le (by simp),List.drop_append,List.length_replicate,List.length_replicate,List.drop_eq_nil_of_le (by simp),List.nil_append,List.drop_replicate,← List.append_assoc,List.replicate_append_replicate]
 congr 2
 omega
theorem Oj {v:Int} {n:Nat} (h:0<n):splice (List.replicate n (Value.int .i64 0)) 0 [.int .i64 v]=wK v n 1:=by
 have:=AO (v:=v) (n:=n) (k:=0) (m:=1) (by omega)
 simpa [wK] using this
theorem YG {v:Int} {n k m:Nat} (h:m<=k) {w:World} {g:Nat} (hG:w.heap[g]? = some (.cells (wK v n k).toArray 3 (0,0))) {j:Nat} {v':Value} (hj:(List.replicate m (Value.int .i64 v))[j]? = some v'):w.cell? ((⟨g,0,none⟩:Addr).add j)=some v':=by
 rw [List.getElem?_replicate] at hj
 split at hj
 ·rename_i hjm
  cases hj
  rw [add_lit,Nat.zero_add,Am.mO hG,List.toList_toArray]
  unfold wK
  rw [List.getElem?_append_left (by rw [List.length_replicate];omega),List.getElem?_replicate,if_pos (by omega)]
 ·cases hj
theorem WH (v:Int) (n:Nat):wK v n n=List.replicate n (.int .i64 v):=by simp [wK]
theorem YC {m:Nat} {v:Int}:∀ x∈List.replicate m (Value.int .i64 v),x.oneCell'=true:=fun x hx=>by
 rw [(List.mem_replicate.1 hx).2]
 rfl
theorem size_int:(Tryz.prog.info? 3).map (·.size)=some 1:=by kernel_rfl
set_option maxRecDepth 20000 in
set_option maxHeartbeats 2000000 in
theorem SE (W:World) (ad:Addr) (cap:Nat) (v:Int) (n:Nat) (hn0:0<n) (hn:n<=1000) (hcap:1<=cap) (hcap2:cap<=9223372036854775807) (hcell:W.cell? ad=some (.int .i64 v)) :
    Calls Tryz.prog 104 #[.slice (some ad) 1 cap,.int .i64 n] W fun e w'=>e = .returned (.slice (some ⟨W.heap.size,0,none⟩) n n)/\w'.heap[W.heap.size]? = some (.cells (List.replicate n (Value.int .i64 v)).toArray 3 (0,0))/\Below W.heap.size W w':=by
  have hcb:ad.block<W.heap.size:=block_lt hcell
  have hHc:=hide hcell
  clear hcell
  go_enter Tryz.func104,Tryz.ntmps104
  go_wp2_with (first
    | (go_at_call 160;refine (VB n hn _).mono ?_;rintro e w' ⟨rfl,rfl⟩;dsimp only)
    | (at_make;refine Jj rfl _ _ rfl n hn rfl rfl ?_;intro w1 hG1 hB1)
    | (with_reducible show wpList _ _ _ _ _ _
       refine wpList_copy_splice rfl (.tmp 31) (.tmp 32) 26 26 rfl 3 Tryz.underlying26 size_int _ _ _ _ _ _ rfl rfl W.heap.size 0 (List.replicate n (Value.int .i64 0)) 3 hG1.out [Value.int .i64 v] (by have:=Nat.min_eq_left (show 1<=n by omega);exact this.symm) (fun _=>⟨rfl,ad,rfl,fun j v' h =>?_⟩) (by rw [List.length_replicate];exact hn0) (fun v' hv=>by rw [List.mem_singleton] at hv;subst hv;rfl) W.heap.size W hB1 (Nat.le_refl _) ?_;rotate_right;intro w2 hG2 hB2))
  case refine_1 =>
    match j,h with
    | 0,h =>
      simp only [List.getElem?_cons_zero,Option.some.injEq] at h
      subst h
      exact (hB1.cell hcb).trans hHc.out
    | j+1,h=>simp at h
  have hG3:Hid (w2.heap[W.heap.size]? = some (.cells (wK v n 1).toArray 3 (0,0))):=by
    have h:=hG2.out
    rw [Oj hn0] at h
    exact hide h
  clear hG1 hG2 hB1
  go_loopw [8] (fun i wr=>∃ k:Nat,1<=k/\k<=n/\i = .int .i64 k/\Hid (wr.heap[W.heap.size]? = some (.cells (wK v n k).toArray 3 (0,0)))/\Below W.heap.size W wr) (fun i _=>n-(intOf i).toNat)
  case atStart=>exact ⟨1,Nat.le_refl _,hn0,rfl,hG3,hB2⟩
  case round =>
    obtain ⟨k,hk0,hk,rfl,hG,hB⟩:=hrel
    clear hG3 hB2
    obtain ⟨wo,rfl⟩:∃ wo:World,wo=wr:=⟨_,rfl⟩
    by_cases hlt:k<n
    · have hm:(List.replicate (min k (n-k)) (Value.int .i64 v)).length=Nat.min k (n-k):=List.length_replicate
      have hM:=hide hm
      have hne:¬ (n=k):=by omega
      have hBd:Below W.heap.size W wo.drew:=⟨hB.os,hB.tape,hB.output,hB.size,hB.block⟩
      clear hm
      go_wp2_with fail
      go_region_law (refine step_copy_splice rfl (.tmp 41) (.tmp 44) 26 26 rfl 3 Tryz.underlying26 size_int (some ⟨W.heap.size,k,none⟩) (some ⟨W.heap.size,0,none⟩) (n-k) (n-k) k n (by simp [Act.eval,Act.put]) (by simp [Act.eval,Act.put]) W.heap.size k (wK v n k) 3 hG.out (List.replicate (min k (n-k)) (Value.int .i64 v)) hM.out (fun _=>⟨rfl,_,rfl,fun j v' h=>YG (Nat.min_le_left _ _) hG.out h⟩) (by rw [List.length_replicate,WI hk];omega) YC W.heap.size W hBd (Nat.le_refl _) ?_;intro w4 hG4 hB4)
      have hwr:IntKind.i64.wrap ((k:Int)+(min k (n-k):Nat))=((k+min k (n-k):Nat):Int):=by rw [IntWalk.i64_in _ ⟨by omega,by omega⟩];omega
      have hG5:Hid (w4.heap[W.heap.size]? = some (.cells (wK v n (k+min k (n-k))).toArray 3 (0,0))):=by
        have h:=hG4.out
        rw [AO (by omega)] at h
        exact hide h
      clear hG4
      go_wp2
      rw [hwr]
      refine ⟨⟨.int .i64 ((k+min k (n-k):Nat):Int),_,_,_,_,_,_,_,_,_,_,_,_,_,⟨k+min k (n-k),by omega,by omega,rfl,hG5,hB4⟩,rfl⟩,?_⟩
      show n-(intOf (.int .i64 ((k+min k (n-k):Nat):Int))).toNat<n-(intOf (.int .i64 (k:Int))).toNat
      simp only [intOf,Int.toNat_natCast]
      omega
    · go_wp2
      go_ret
      have hkn:k=n:=by omega
      subst hkn
      have h:=hG.out
      rw [WH] at h
      exact ⟨rfl,h,hB⟩
def aeA:Prop:=∀ (v:Int) (n:Nat),0<n->n<=1000->bP Tryz.prog 104 [.sl (.ints [v]),.int n] [] [] (.lf (.own 0)) [.row 3 (.ints (List.replicate n v))]
theorem ac4:aeA:=fun v n h0 hn=>Ru (fun _ _=>by kernel_rfl) (fun M w us hm ha=>by
 obtain ⟨u,us',rfl,h1,h2⟩:=dK ha
 obtain ⟨u',us'',rfl,h3,h4⟩:=dK h2
 obtain rfl:=iH h4
 obtain rfl:u' = .int .i64 n:=h3
 have h1':(Am.B.sl (.ints [v])).rel M u:=h1
 obtain ⟨vs,⟨A,cap,e3,k1,k2,k3⟩,k4⟩:=B.jB.1 h1'
 have e3:u = .slice A 1 cap:=e3
 subst e3
 obtain ⟨u0,e4,e5⟩:=k4.2.2 0 0 (Nat.succ_pos _) (Nat.succ_pos _)
 obtain ⟨ad,rfl,k5⟩:=k3 (by rintro rfl;simp at e4)
 obtain rfl:u0 = .int .i64 v:=e5
 have hlt:=(List.getElem?_eq_some_iff.1 e4).1
 have h6:=k5 0 (by simpa using hlt)
 have h7:w.cell? ad=some (.int .i64 v):=by
  have h8:=hm _ _ h6
  rw [add_zero] at h8
  rw [h8]
  have h9:=(List.getElem?_eq_some_iff.1 e4).2
  simpa using h9
 refine (SE w ad cap v n h0 hn k1 k2 h7).mono ?_
 rintro ex w' ⟨rfl,h8,h9⟩
 refine ⟨_,List.replicate n (.int .i64 v),rfl,⟨?_,.inr ⟨w.heap.size,n,(List.replicate n (.int .i64 v)).toArray,?_,Nat.zero_le _,h8,?_,?_,?_,?_⟩⟩,⟨trivial,?_⟩,fun g hg =>?_,h9⟩
 ·simp [Cn.len,Cn.w]
 ·simp [Cn.len]
 ·simp [Cn.len]
 ·simp only [maxLen];omega
 ·simp [Cn.w]
 ·simp [Cn.len,Cn.w]
 ·refine ⟨by simp [Cn.len,Cn.w],fun j o hj ho =>?_⟩
  have hj:j<n:=by simpa [Cn.len] using hj
  have ho:o=0:=by simp only [Cn.w] at ho;omega
  subst ho
  refine ⟨.int .i64 v,by simp [Cn.w,hj],?_⟩
  show Value.int .i64 v = .int .i64 ((List.replicate n v).getD j 0)
  simp [List.getD_eq_getElem?_getD,List.getElem?_replicate,hj]
 ·obtain rfl:w.heap.size=g:=by simpa [blk] using hg
  exact ⟨Nat.le_refl _,(Array.getElem?_eq_some_iff.1 h8).1⟩) rfl
theorem JQ {P:Program} {f:Nat} {args:List AV} {v:Value} {r:AV} (hent:∀ (av:Array Value) (W:World),(callFunc f av).run P W = .ok (.enter f av) W) (hr:∀ M:Am.Mem,r.rel lN M v)
  (h:∀ (M:Am.Mem) (w:World) (us:List Value),Mem.in_ M w->fO M args us->Calls P f us.toArray w fun e w'=>e = .returned v/\Below w.heap.size w w'):Does P f args (.imm r):=by
 refine ⟨hent,fun M w us hm ha=>(h M w us hm ha).mono fun e w' ⟨h1,h2⟩=>⟨v,M,h1,Am.Mem.le_refl _,fun ad u hu=>⟨?_,.inl hu⟩,hr M,h2⟩⟩
 have h3:=hm ad u hu
 exact (h2.cell (block_lt h3)).trans h3
abbrev frT (a:Int×Int):TV := .agg [.b (.val (.int .i64 a.1)),.b (.val (.int .i64 a.2))]
abbrev blT (b:Bool):TV := .one (.b (.val (.bool b)))
theorem PL {M:Am.Mem} (a:Int×Int) (b:Bool):(AV.tup [frT a,blT b]).rel lN M (.tuple #[frV a,.bool b]) :=
 ⟨[frV a,.bool b],rfl,rfl,fun j hj hj'=>by
  match j with
  | 0=>exact acv (M:=M) (φ:=lN) rfl rfl
  | 1=>exact rfl
  | j+2=>exact absurd hj (by simp)⟩
theorem NK (n d:Int) (hd:1<=d) (hd2:d<=9223372036854775807) (h1 : -9223372036854775807<=n) (h2:n<=9223372036854775807):Does Tryz.prog 65 [.int n,.int d] (.imm (.tup [frT (jw n d),blT (iL n d)])) :=
 JQ (v := .tuple #[frV (jw n d),.bool (iL n d)]) (fun _ _=>by kernel_rfl) (fun M=>PL _ _) fun M w us hm ha=>by
  obtain ⟨u,us',rfl,k1,k2⟩:=dK ha
  obtain ⟨u',us'',rfl,k3,k4⟩:=dK k2
  obtain rfl:=iH k4
  obtain rfl:u = .int .i64 n:=k1
  obtain rfl:u' = .int .i64 d:=k3
  exact Iq w n d hd hd2 h1 h2
theorem DC (n d:Int) (hd:1<=d) (hd2:d<=9223372036854775807) (h1 : -9223372036854775807<=n) (h2:n<=9223372036854775807):Does Tryz.prog 165 [.int n,.int d] (.imm (.tup [frT (jw n d),blT (iL n d)])) :=
 JQ (v := .tuple #[frV (jw n d),.bool (iL n d)]) (fun _ _=>by kernel_rfl) (fun M=>PL _ _) fun M w us hm ha=>by
  obtain ⟨u,us',rfl,k1,k2⟩:=dK ha
  obtain ⟨u',us'',rfl,k3,k4⟩:=dK k2
  obtain rfl:=iH k4
  obtain rfl:u = .int .i64 n:=k1
  obtain rfl:u' = .int .i64 d:=k3
  exact Ny w n d hd hd2 h1 h2
end Go.Proofs.YtnblieajjclipaaGreat
