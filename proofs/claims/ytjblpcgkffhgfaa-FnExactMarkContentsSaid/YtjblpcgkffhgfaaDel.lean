/- slices.Sort, Compact and DeleteFunc of numbers: they turn an own row in place. Conditions: those that each names. -/
import Derived.Shelf.Sort.Plain
import Derived.Shelf.Slices.In.SortNone
import Derived.Shelf.Slices.CompactI
import Derived.Deep.OwnRows
import Derived.Test.YtjblpcgkffhgfaaME
import Derived.Test.YtjblpcgkffhgfaaReqP
set_option linter.all false
set_option linter.unusedSimpArgs false
set_option linter.unusedVariables false
namespace Go.Proofs.Ytjblpcgkffhgfaa
open Go Go.RowKit Go.Shelf Go.Sort Am

def sortRen:Ren:=⟨fun n=>if n=125 then 83 else if n=128 then 96 else if n=129 then 97 else if n=189 then 70 else if n=215 then 84 else if n=216 then 93 else if n=257 then 82 else if n=294 then 87 else if n=295 then 88 else if n=296 then 89 else if n=297 then 90 else if n=298 then 91 else if n=299 then 92 else if n=300 then 94 else if n=301 then 95 else if n=328 then 100 else if n=329 then 101 else if n=330 then 102 else if n=331 then 103 else if n=332 then 104 else if n=343 then 105 else 0,fun n=>if n=0 then 0 else if n=3 then 3 else if n=4 then 4 else if n=5 then 5 else if n=9 then 9 else if n=28 then 22 else if n=46 then 77 else if n=51 then 90 else if n=53 then 92 else if n=131 then 70 else if n=182 then 83 else if n=183 then 84 else if n=218 then 95 else if n=222 then 99 else if n=228 then 101 else if n=229 then 102 else 0,fun _=>0⟩
theorem sortLays:Lays.n189 Try.prog sortRen where
  mixed:=by kernel_rfl
  f125:=by kernel_rfl
  f128:=by kernel_rfl
  f129:=by kernel_rfl
  f189:=by kernel_rfl
  f215:=by kernel_rfl
  f216:=by kernel_rfl
  f257:=by kernel_rfl
  f294:=by kernel_rfl
  f295:=by kernel_rfl
  f296:=by kernel_rfl
  f297:=by kernel_rfl
  f298:=by kernel_rfl
  f299:=by kernel_rfl
  f300:=by kernel_rfl
  f301:=by kernel_rfl
  f328:=by kernel_rfl
  f329:=by kernel_rfl
  f330:=by kernel_rfl
  f331:=by kernel_rfl
  f332:=by kernel_rfl
  f343:=by kernel_rfl
  t0:=by kernel_rfl
  a0:=fun _=>by kernel_rfl
  z0:=fun _=>by kernel_rfl
  v0:=fun _=>by kernel_rfl
  t3:=by kernel_rfl
  a3:=fun _=>by kernel_rfl
  z3:=fun _=>by kernel_rfl
  v3:=fun _=>by kernel_rfl
  t4:=by kernel_rfl
  a4:=fun _=>by kernel_rfl
  z4:=fun _=>by kernel_rfl
  v4:=fun _=>by kernel_rfl
  t5:=by kernel_rfl
  a5:=fun _=>by kernel_rfl
  z5:=fun _=>by kernel_rfl
  v5:=fun _=>by kernel_rfl
  t9:=by kernel_rfl
  a9:=fun _=>by kernel_rfl
  z9:=fun _=>by kernel_rfl
  v9:=fun _=>by kernel_rfl
  t28:=by kernel_rfl
  a28:=fun _=>by kernel_rfl
  z28:=fun _=>by kernel_rfl
  v28:=fun _=>by kernel_rfl
  t46:=by kernel_rfl
  a46:=fun _=>by kernel_rfl
  z46:=fun _=>by kernel_rfl
  v46:=fun _=>by kernel_rfl
  t51:=by kernel_rfl
  a51:=fun _=>by kernel_rfl
  z51:=fun _=>by kernel_rfl
  v51:=fun _=>by kernel_rfl
  t53:=by kernel_rfl
  a53:=fun _=>by kernel_rfl
  z53:=fun _=>by kernel_rfl
  v53:=fun _=>by kernel_rfl
  t131:=by kernel_rfl
  a131:=fun _=>by kernel_rfl
  z131:=fun _=>by kernel_rfl
  v131:=fun _=>by kernel_rfl
  t182:=by kernel_rfl
  a182:=fun _=>by kernel_rfl
  z182:=fun _=>by kernel_rfl
  v182:=fun _=>by kernel_rfl
  t183:=by kernel_rfl
  a183:=fun _=>by kernel_rfl
  z183:=fun _=>by kernel_rfl
  v183:=fun _=>by kernel_rfl
  t218:=by kernel_rfl
  a218:=fun _=>by kernel_rfl
  z218:=fun _=>by kernel_rfl
  v218:=fun _=>by kernel_rfl
  t222:=by kernel_rfl
  a222:=fun _=>by kernel_rfl
  z222:=fun _=>by kernel_rfl
  v222:=fun _=>by kernel_rfl
  t228:=by kernel_rfl
  a228:=fun _=>by kernel_rfl
  z228:=fun _=>by kernel_rfl
  v228:=fun _=>by kernel_rfl
  t229:=by kernel_rfl
  a229:=fun _=>by kernel_rfl
  z229:=fun _=>by kernel_rfl
  v229:=fun _=>by kernel_rfl
def compRen:Ren:=⟨fun n=>if n=20 then 71 else 0,fun n=>if n=0 then 0 else if n=3 then 3 else if n=4 then 4 else if n=22 then 22 else 0,fun _=>0⟩
theorem compLays:Lays2.n20 Try.prog compRen where
  mixed:=by kernel_rfl
  f20:=by kernel_rfl
  t0:=by kernel_rfl
  a0:=fun _=>by kernel_rfl
  z0:=fun _=>by kernel_rfl
  v0:=fun _=>by kernel_rfl
  t3:=by kernel_rfl
  a3:=fun _=>by kernel_rfl
  z3:=fun _=>by kernel_rfl
  v3:=fun _=>by kernel_rfl
  t4:=by kernel_rfl
  a4:=fun _=>by kernel_rfl
  z4:=fun _=>by kernel_rfl
  v4:=fun _=>by kernel_rfl
  t22:=by kernel_rfl
  a22:=fun _=>by kernel_rfl
  z22:=fun _=>by kernel_rfl
  v22:=fun _=>by kernel_rfl
  i3:=by kernel_rfl
theorem free_noφ {φ φ':Nat→Value} {M:Am.Mem} {x:AV} {u:Value} (hf:x.free=true) (h:x.rel φ M u):x.rel φ' M u:=AV.rel_imp h fun y hy u hu=>Lf.rel_phi (n:=0) (free_lt hf 0 y hy) (fun i hi=>absurd hi (Nat.not_lt_zero i)) hu
/-- what such a call hands back: the first part of the slice, or nothing -/
def rvT (b:Bool) (u:Value):Value:=bif b then u else .tuple #[]
theorem ints_cells {M:Am.Mem} {xs:List Int} {vs:List Value} (h:(Cn.ints xs).rel M vs):vs=xs.map (Value.int .i64):=by
  have h1:vs.length=xs.length:=by simpa [Cn.len,Cn.w] using h.2.1
  refine List.ext_getElem (by simpa using h1) fun j hj hj2 => ?_
  have hj3:j<xs.length:=by omega
  obtain ⟨u,h2,h3⟩:=h.2.2 j 0 hj3 (by simp [Cn.w])
  have h4:u = .int .i64 (xs.getD j 0):=h3
  simp only [Cn.w,Nat.mul_one,Nat.add_zero] at h2
  rw [List.getElem?_eq_getElem hj] at h2
  rw [Option.some.inj h2,h4]
  simp [hj3]
theorem cells_ints {M:Am.Mem} {xs:List Int}:(Cn.ints xs).rel M (xs.map (Value.int .i64)):=by
  refine ⟨trivial,by simp [Cn.len,Cn.w],fun j o hj ho => ?_⟩
  have hj:j<xs.length:=hj
  have ho:o=0:=by simp only [Cn.w] at ho;omega
  subst ho
  refine ⟨.int .i64 (xs.getD j 0),by simp [Cn.w,hj],rfl⟩
theorem kept_cell {S:Nat→Prop} {w w':World} (h:Kept S w w') {ad:Addr} {v:Value} (hv:w.cell? ad=some v) (hs:¬ S ad.block):w'.cell? ad=some v:=by
  have h1:=h.block _ (block_lt hv) hs
  unfold World.cell? at hv ⊢
  rw [h1]
  exact hv
/-- a call that turns one own row of numbers in place -/
theorem doesH_turn {P:Program} {f e:Nat} {args:List AV} {xs ys:List Int} (b:Bool) (hent:∀ (av:Array Value) (W:World),(callFunc f av).run P W = .ok (.enter f av) W) (hfree:args.all AV.free=true) (hle:ys.length≤xs.length) (hb:b=false→ys.length=xs.length)
    (h0:xs=[]→∀ (M:Am.Mem) (w:World) (us:List Value),(∀ ad v,M ad=some v→w.cell? ad=some v)→ArgsRel M args us→Calls P f (Value.slice none 0 0::us).toArray w fun ex w'=>ex = .returned (rvT b (.slice none 0 0))∧Kept (fun _=>False) w w')
    (h1:∀ (M:Am.Mem) (w:World) (us:List Value),(∀ ad v,M ad=some v→w.cell? ad=some v)→ArgsRel M args us→∀ (g cap:Nat) (cur:Array Value),w.heap[g]? = some (.cells cur e (0,0))→(∀ ad v,M ad=some v→ad.block≠g)→xs.length≤cap→cap≤maxLen→cur.size=cap→cur.toList.take xs.length=xs.map (Value.int .i64) →
      Calls P f (Value.slice (some ⟨g,0,none⟩) xs.length cap::us).toArray w fun ex w'=>ex = .returned (rvT b (.slice (some ⟨g,0,none⟩) ys.length cap))∧Kept (fun k=>k=g) w w'∧∃ cur':Array Value,w'.heap[g]? = some (.cells cur' e (0,0))∧cur'.size=cap∧cur'.toList.take ys.length=ys.map (Value.int .i64)) :
    DoesH P f (.lf (.own 0)::args) (bif b then [] else [true]) [.row e (.ints xs)] (bif b then .lf (.own 0) else .tup []) [.row e (.ints ys)]:=by
  refine ⟨hent,fun φ β M w us hH ha => ?_⟩
  obtain ⟨ha1,ha2⟩:=ha
  obtain ⟨u0,us,rfl⟩:∃ u0 us',us=u0::us':=by
    cases us with
    | nil=>simp at ha1
    | cons a l=>exact ⟨a,l,rfl⟩
  have hu0:u0=φ 0:=ha2 0 (by simp) (by simp)
  subst hu0
  have hA:ArgsRel M args us:=⟨by simpa using ha1,fun j hj hj'=>free_noφ (List.all_eq_true.1 hfree _ (List.getElem_mem hj)) (by have:=ha2 (j+1) (by simpa using hj) (by simpa using hj');simpa using this)⟩
  obtain ⟨vs,hv1,hv2,hv3⟩:=hH.ob 0 _ rfl
  have hvs:=ints_cells hv2
  subst hvs
  obtain ⟨hvl,hv1⟩:=hv1
  rcases hv1 with ⟨hnil,hn0⟩ | ⟨g,cap,cur,e1,-,e2,e3,e4,e5,e6⟩
  · have hx:xs=[]:=List.length_eq_zero_iff.1 hn0
    subst hx
    have hy:ys=[]:=List.length_eq_zero_iff.1 (by simpa using hle)
    subst hy
    rw [hnil]
    refine (h0 rfl M w us hH.mem hA).mono ?_
    rintro ex w' ⟨rfl,hk⟩
    have hbl:=hk.to_below fun _ h=>h
    refine ⟨_,φ,β,M,rfl,Am.Mem.le_refl _,fun ad v h => .inl h,hH.below hbl,?_,?_,Nat.le_refl _,fun _ _=>rfl,fun i g hi hg => .inr ⟨i,hi,hg⟩,⟨hk.os,hk.tape,hk.output,hk.size,fun k h1 _=>hk.block k h1 fun h=>h⟩⟩
    · cases b
      · exact ⟨[],rfl,rfl,fun j h=>absurd h (Nat.not_lt_zero j)⟩
      · exact hnil.symm
    · cases b
      · intro y hy;simp [AV.leaves] at hy
      · intro y hy
        simp [AV.leaves,TV.leaves] at hy
        subst hy
        rfl
  · have hβ:β 0 g:=hv3 g (by rw [e1];rfl)
    have hoff:∀ ad v,M ad=some v→ad.block≠g:=hH.off 0 g (by simp) hβ
    simp only [Cn.len,Cn.w,Nat.mul_one] at e3 e5 e6
    rw [show φ 0 = .slice (some ⟨g,0,none⟩) xs.length cap from e1]
    refine (h1 M w us hH.mem hA g cap cur e2 hoff e3 e4 e5 e6).mono ?_
    rintro ex w' ⟨rfl,hk,cur',k1,k2,k3⟩
    have hgl:=(Array.getElem?_eq_some_iff.1 e2).1
    refine ⟨_,upd φ 0 (.slice (some ⟨g,0,none⟩) ys.length cap),β,M,rfl,Am.Mem.le_refl _,fun ad v h => .inl h,⟨fun a v h=>kept_cell hk (hH.mem a v h) (hoff a v h),fun i o hi => ?_,fun i g' hi hg'=>hH.off i g' hi hg',fun i j g' hi hj=>hH.inj i j g' hi hj,fun i g' hi hg'=>Nat.lt_of_lt_of_le (hH.lt i g' hi hg') hk.size,fun i o hi => ?_⟩,?_,?_,Nat.le_refl _,?_,fun i g' hi hg' => .inr ⟨i,hi,hg'⟩,⟨hk.os,hk.tape,hk.output,hk.size,fun k h1 h2=>hk.block k h1 fun h=>h2 ⟨0,by simp,by rw [h];exact hβ⟩⟩⟩
    · match i,hi with
      | 0,hi =>
        simp at hi
        subst hi
        rw [upd_same]
        exact ⟨ys.map (Value.int .i64),⟨by simp [Cn.len,Cn.w],.inr ⟨g,cap,cur',rfl,Nat.zero_le _,k1,Nat.le_trans hle e3,e4,by simpa [Cn.w] using k2,by simpa [Cn.len,Cn.w] using k3⟩⟩,cells_ints,fun g' hg'=>by simp [blk] at hg';rw [← hg'];exact hβ⟩
      | i+1,hi=>simp at hi
    · match i,hi with
      | 0,hi=>simp at hi;subst hi;trivial
      | i+1,hi=>simp at hi
    · cases b
      · exact ⟨[],rfl,rfl,fun j h=>absurd h (Nat.not_lt_zero j)⟩
      · exact (upd_same _ _ _).symm
    · cases b
      · intro y hy;simp [AV.leaves] at hy
      · intro y hy
        simp [AV.leaves,TV.leaves] at hy
        subst hy
        rfl
    · intro i hi
      cases b
      · match i,hi with
        | 0,_=>rw [upd_same,hb rfl];exact e1.symm
        | i+1,hi=>simp at hi
      · simp at hi
theorem holds_row {w:World} {g e:Nat} {cur:Array Value} {xs:List Int} (hg:w.heap[g]? = some (.cells cur e (0,0))) (ht:cur.toList.take xs.length=xs.map (Value.int .i64)):Holds (Value.int .i64) w g 0 xs.toArray:=fun j hj=>by
  have hj:j<xs.length:=by simpa using hj
  have h1:cur.toList[j]? = some (.int .i64 xs[j]):=by
    have h2:(cur.toList.take xs.length)[j]? = some (.int .i64 xs[j]):=by rw [ht];simp [hj]
    rwa [List.getElem?_take_of_lt hj] at h2
  refine ⟨?_,?_⟩
  · rw [Nat.zero_add,Am.cell_heap hg,h1]
    simp [hj]
  · unfold World.frozen?
    rw [hg]
    simp
/-- a row that was put anew -/
theorem put_row {w w':World} {g e n:Nat} {os:Array Obj} {cur:Array Value} {zs:List Int} (hg:w.heap[g]? = some (.cells cur e (0,0))) (hz:zs.length≤cur.size) (h:w'=grow (putRow (Value.int .i64) (Sort.ahead w n) g 0 zs.toArray) os) :
    Kept (fun k=>k=g) w w'∧∃ cur':Array Value,w'.heap[g]? = some (.cells cur' e (0,0))∧cur'.size=cur.size∧∀ m,m≤zs.length→cur'.toList.take m=(zs.take m).map (Value.int .i64):=by
  have hgl:=(Array.getElem?_eq_some_iff.1 hg).1
  subst h
  have hh:∀ k,k<w.heap.size→(grow (putRow (Value.int .i64) (Sort.ahead w n) g 0 zs.toArray) os).heap[k]? = (w.heap.modify g (onCells (putCells (Value.int .i64) 0 zs.toArray)))[k]? := fun k hk=>by
    rw [heap_grow_old _ _ (by rw [size_putRow];exact hk)]
    rfl
  refine ⟨⟨rfl,rfl,rfl,?_,fun k hk hne => ?_⟩,putCells (Value.int .i64) 0 zs.toArray cur,?_,?_,fun m hm => ?_⟩
  · rw [size_grow,size_putRow]
    show w.heap.size≤w.heap.size+os.size
    omega
  · rw [hh k hk,Array.getElem?_modify,if_neg fun h=>hne h.symm]
  · rw [hh g hgl,Array.getElem?_modify,if_pos rfl,hg]
    rfl
  · simp [putCells]
  · refine List.ext_getElem? fun j => ?_
    by_cases hj:j<m
    · have hjz:j<zs.length:=by omega
      have hjc:j<cur.size:=by omega
      rw [List.getElem?_take_of_lt hj,Array.getElem?_toList,List.getElem?_map,List.getElem?_take_of_lt hj]
      simp [putCells,hjz,hjc]
    · rw [List.getElem?_eq_none (by simp;omega),List.getElem?_eq_none (by simp;omega)]
/-! ### slices.Sort -/
theorem sort_h (xs:List Int) (hn:xs.length≤1048576):DoesH Try.prog 70 [.lf (.own 0)] [true] [.row 3 (.ints xs)] (.tup []) [.row 3 (.ints (srt xs))]:=by
  refine doesH_turn (args:=[]) false (fun _ _=>by kernel_rfl) rfl (by rw [srt_len];exact Nat.le_refl _) (fun _=>srt_len xs) (fun hx M w us hm ha => ?_) (fun M w us hm ha g cap cur hg hoff h1 h2 h3 h4 => ?_)
  · subst hx
    obtain rfl:=args_inv0 ha
    refine (Any.slices_Sort_int_none sortLays none 0 w).mono ?_
    rintro ex w' ⟨rfl,rfl⟩
    exact ⟨rfl,Kept.refl _ _⟩
  · obtain rfl:=args_inv0 ha
    have hgl:=(Array.getElem?_eq_some_iff.1 hg).1
    refine (Any.slices_Sort_int sortLays g 0 cap xs w (holds_row hg h4) hgl (by omega)).mono ?_
    rintro ex w' ⟨rfl,n,os,hw⟩
    obtain ⟨k1,cur',k2,k3,k4⟩:=put_row (zs:=srt xs) hg (by rw [srt_len];omega) hw
    refine ⟨rfl,k1,cur',k2,by omega,?_⟩
    rw [k4 _ (Nat.le_refl _),List.take_length]
/-! ### slices.Compact -/
theorem compact_h (xs:List Int) (hn:xs.length≤1048576):DoesH Try.prog 71 [.lf (.own 0)] [] [.row 3 (.ints xs)] (.lf (.own 0)) [.row 3 (.ints (cpt xs))]:=by
  refine doesH_turn (args:=[]) true (fun _ _=>by kernel_rfl) rfl (cpt_len xs) (fun h=>by cases h) (fun hx M w us hm ha => ?_) (fun M w us hm ha g cap cur hg hoff h1 h2 h3 h4 => ?_)
  · obtain rfl:=args_inv0 ha
    refine (Any.slices_Compact_int_empty compLays none 0 w).mono ?_
    rintro ex w' ⟨rfl,rfl⟩
    exact ⟨rfl,Kept.refl _ _⟩
  · obtain rfl:=args_inv0 ha
    have hgl:=(Array.getElem?_eq_some_iff.1 hg).1
    refine (Any.slices_Compact_int compLays g 0 cap xs w (holds_row hg h4) (by omega) h1).mono ?_
    rintro ex w' ⟨rfl,q,hw⟩
    have hcl:=cpt_len xs
    have hcl':(Lib.compact xs).length≤xs.length:=hcl
    have hw':w'=grow (putRow (Value.int .i64) (Sort.ahead w q) g 0 (Lib.compact xs++List.replicate (xs.length-(Lib.compact xs).length) 0).toArray) #[]:=by rw [hw,grow_empty]
    obtain ⟨k1,cur',k2,k3,k4⟩:=put_row hg (by simp;omega) hw'
    refine ⟨rfl,k1,cur',k2,by omega,?_⟩
    rw [k4 _ (by simp [cpt])]
    simp [cpt]
/-! ### slices.DeleteFunc -/
theorem OwI.sets {lo hi g cap:Nat}:∀ (vs:List Int) (i:Nat) (w:World) (zs:List Int),OwI w lo hi (.slice (some ⟨g,0,none⟩) zs.length cap) zs→lo≤g→g<hi →
    ∃ zs',zs'.length=zs.length∧zs'.take i=zs.take i∧OwI (w.setCells g i (vs.map (Value.int .i64))) lo hi (.slice (some ⟨g,0,none⟩) zs'.length cap) zs'∧Frm lo hi w (w.setCells g i (vs.map (Value.int .i64)))
  | [],i,w,zs,h,_,_=>⟨zs,rfl,rfl,h,⟨rfl,rfl,rfl,Nat.le_refl _,fun _ _ _=>rfl⟩⟩
  | v::vs,i,w,zs,h,h1,h2=>by
    obtain ⟨k1,k2⟩:=h.set rfl i v
    have e:zs.length=(zs.set i v).length:=by simp
    rw [e] at k1
    obtain ⟨zs',j1,j2,j3,j4⟩:=OwI.sets vs (i+1) _ _ k1 h1 h2
    refine ⟨zs',by rw [j1];simp,?_,j3,⟨j4.os.trans k2.os,j4.tape.trans k2.tape,j4.output.trans k2.output,Nat.le_trans k2.size j4.size,fun k hk hn=>(j4.block k (Nat.lt_of_lt_of_le hk k2.size) hn).trans (k2.block k hk hn)⟩⟩
    have h3:=congrArg (List.take i) j2
    rw [List.take_take,List.take_take,Nat.min_eq_left (by omega)] at h3
    rw [h3,List.take_set_of_le (by omega)]
/-- the row while elements are struck: the first j are looked at -/
structure DelI (p:Int→Bool) (xs zs:List Int) (j i:Nat):Prop where
  len:zs.length=xs.length
  le:i≤j
  low:zs.take i=(xs.take j).filter fun x => !p x
  high:zs.drop j=xs.drop j
  ile:i=((xs.take j).filter fun x => !p x).length
theorem DelI.at_ {p:Int→Bool} {xs zs:List Int} {j i:Nat} (h:DelI p xs zs j i) (hj:j<xs.length):∃ hz:j<zs.length,zs[j]=xs[j]:=by
  have hz:j<zs.length:=by rw [h.len];exact hj
  refine ⟨hz,?_⟩
  have h1:=congrArg (fun l=>l[0]?) h.high
  simp only [List.getElem?_drop,Nat.add_zero] at h1
  rw [List.getElem?_eq_getElem hz,List.getElem?_eq_getElem hj] at h1
  exact Option.some.inj h1
theorem DelI.keep {p:Int→Bool} {xs zs:List Int} {j i:Nat} (h:DelI p xs zs j i) (hj:j<xs.length) (hp:p xs[j]=false):DelI p xs (zs.set i xs[j]) (j+1) (i+1):=by
  have h1:=h.le
  have h2:=h.len
  have e:(xs.take (j+1)).filter (fun x => !p x)=(xs.take j).filter (fun x => !p x)++[xs[j]]:=by rw [List.take_succ_eq_append_getElem hj,List.filter_append];simp [hp]
  refine ⟨by rw [List.length_set];exact h.len,by omega,?_,?_,by rw [e,List.length_append,← h.ile];rfl⟩
  · rw [e,← h.low,List.take_succ_eq_append_getElem (by rw [List.length_set];omega),List.getElem_set_self,List.take_set_of_le (Nat.le_refl _)]
  · rw [List.drop_set_of_lt (by omega),← List.drop_drop,h.high,List.drop_drop]
theorem DelI.skip {p:Int→Bool} {xs zs:List Int} {j i:Nat} (h:DelI p xs zs j i) (hj:j<xs.length) (hp:p xs[j]=true):DelI p xs zs (j+1) i:=by
  have e:(xs.take (j+1)).filter (fun x => !p x)=(xs.take j).filter (fun x => !p x):=by rw [List.take_succ_eq_append_getElem hj,List.filter_append];simp [hp]
  have h1:=h.le
  exact ⟨h.len,by omega,by rw [e];exact h.low,by rw [← List.drop_drop,h.high,List.drop_drop],by rw [e];exact h.ile⟩
end Go.Proofs.Ytjblpcgkffhgfaa
