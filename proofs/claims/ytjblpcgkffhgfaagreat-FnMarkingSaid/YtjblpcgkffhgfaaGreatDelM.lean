/- Random marking: the items that are not marked, on the machine: the program's DeleteFunc with a closure that looks into the marker. Conditions: those that each names. -/
import Derived.Test.YtjblpcgkffhgfaaGreatMgA
import Derived.Test.YtjblpcgkffhgfaaGreatGRQ
set_option linter.all false
set_option linter.unusedSimpArgs false
set_option linter.unusedVariables false
namespace Go.Proofs.YtjblpcgkffhgfaaGreat
open Go Go.RowKit Am

theorem rq1_any (W:World) (b1 g2:Nat) (y:Int) (u:Value) (M:List Int) (h1:W.cell? ⟨b1,0,none⟩=some (.pointer (some ⟨g2,0,none⟩))) (h2:W.cell? ⟨g2,1,none⟩=some u) (h3:SlI W u M):Calls Tryz.prog 150 #[.int .i64 y,.pointer (some ⟨b1,0,none⟩)] W fun e W'=>e = .returned (.bool (M.contains y))∧Below W.heap.size W W':=by
  have hc:=hide (calls_val (contains_d M y) (w:=W) (us:=[u,.int .i64 y]) (args_cons (si_of_sl h3) (args_cons rfl args_nil)))
  clear h3
  go_enter Tryz.func150,Tryz.ntmps150
  go_wp2_with ((with_reducible refine hc.out.mono ?_);rintro e w2 ⟨rfl,hb2⟩;dsimp only)
  go_ret
  exact ⟨rfl,hb2⟩
theorem ob_rel0 {φ φ':Nat→Value} {S:Nat→Prop} {M:Am.Mem} {w:World} {o:Ob} {u:Value} {n:Nat} (h0:∀ y∈obLs o,y.nm≠some 0) (hlt:o.lt n) (hφ:∀ i,i≠0→φ' i=φ i) (h:o.rel φ S M w u):o.rel φ' S M w u:=by
  have hl:∀ y∈obLs o,∀ v,y.rel φ M v→y.rel φ' M v:=fun y hy v hv=>by
    cases y with
    | own i=>exact hv.trans (hφ i fun e=>h0 _ hy (by rw [e];rfl)).symm
    | ptr i o=>obtain ⟨g,h1,h2⟩:=hv;exact ⟨g,(hφ i fun e=>h0 _ hy (by rw [e];rfl)).trans h1,h2⟩
    | oa i w j o=>obtain ⟨g,n,cap,h1,h2⟩:=hv;exact ⟨g,n,cap,(hφ i fun e=>h0 _ hy (by rw [e];rfl)).trans h1,h2⟩
    | _=>exact hv
  cases o with
  | box cs=>obtain ⟨g,arr,t,h1,h2,h3,h4⟩:=h;exact ⟨g,arr,t,h1,h2,h3.imp fun y hy v hv=>hl y hy v hv,h4⟩
  | hole e es c k x=>exact OwnH.imp h fun v hv=>hl x (by simp [obLs]) v hv
  | cut e e2 c k x=>exact OwnC.imp h (Am.Mem.le_refl _) fun v hv=>hl x (by simp [obLs]) v hv
  | _=>exact h
/-- a call that turns the own row 0 in place, beside other memory, which stays -/
theorem doesH_turnR {P:Program} {f e:Nat} {args:List AV} {xs ys:List Int} {rest:List Ob} (hent:∀ (av:Array Value) (W:World),(callFunc f av).run P W = .ok (.enter f av) W) (hle:ys.length≤xs.length)
    (hr0:∀ o∈rest,∀ y∈obLs o,y.nm≠some 0) (hrl:∀ o∈rest,o.lt (rest.length+1))
    (h0:xs=[]→∀ (φ:Nat→Value) (β:Nat→Nat→Prop) (M:Am.Mem) (w:World) (us:List Value),HI φ β M (.row e (.ints xs)::rest) w→AsRel φ M args us→Calls P f (Value.slice none 0 0::us).toArray w fun ex w'=>ex = .returned (.slice none 0 0)∧Kept (fun _=>False) w w')
    (h1:∀ (φ:Nat→Value) (β:Nat→Nat→Prop) (M:Am.Mem) (w:World) (us:List Value),HI φ β M (.row e (.ints xs)::rest) w→AsRel φ M args us→∀ (g cap:Nat) (cur:Array Value),β 0 g→w.heap[g]? = some (.cells cur e (0,0))→xs.length≤cap→cap≤maxLen→cur.size=cap→cur.toList.take xs.length=xs.map (Value.int .i64) →
      Calls P f (Value.slice (some ⟨g,0,none⟩) xs.length cap::us).toArray w fun ex w'=>ex = .returned (.slice (some ⟨g,0,none⟩) ys.length cap)∧Kept (fun k=>k=g) w w'∧∃ cur':Array Value,w'.heap[g]? = some (.cells cur' e (0,0))∧cur'.size=cap∧cur'.toList.take ys.length=ys.map (Value.int .i64)) :
    DoesH P f (.lf (.own 0)::args) (false::rest.map fun _=>true) (.row e (.ints xs)::rest) (.lf (.own 0)) (.row e (.ints ys)::rest):=by
  refine ⟨hent,fun φ β M w us hH ha => ?_⟩
  obtain ⟨ha1,ha2⟩:=ha
  obtain ⟨u0,us,rfl⟩:∃ u0 us',us=u0::us':=by
    cases us with
    | nil=>simp at ha1
    | cons a l=>exact ⟨a,l,rfl⟩
  have hu0:u0=φ 0:=ha2 0 (by simp) (by simp)
  subst hu0
  have hA:AsRel φ M args us:=⟨by simpa using ha1,fun j hj hj'=>by have:=ha2 (j+1) (by simpa using hj) (by simpa using hj');simpa using this⟩
  obtain ⟨vs,hv1,hv2,hv3⟩:=hH.ob 0 _ rfl
  have hvs:=ints_cells hv2
  subst hvs
  obtain ⟨hvl,hv1⟩:=hv1
  rcases hv1 with ⟨hnil,hn0⟩ | ⟨g,cap,cur,e1,-,e2,e3,e4,e5,e6⟩
  · have hx:xs=[]:=List.length_eq_zero_iff.1 hn0
    subst hx
    have hy:ys=[]:=List.length_eq_zero_iff.1 (by simpa using hle)
    subst hy
    rw [hnil]
    refine (h0 rfl φ β M w us hH hA).mono ?_
    rintro ex w' ⟨rfl,hk⟩
    have hbl:=hk.to_below fun _ h=>h
    refine ⟨_,φ,β,M,rfl,Am.Mem.le_refl _,fun ad v h => .inl h,hH.below hbl,hnil.symm,fun y hy => ?_,Nat.le_refl _,fun _ _=>rfl,fun i g hi hg => .inr ⟨i,hi,hg⟩,⟨hk.os,hk.tape,hk.output,hk.size,fun k h1 _=>hk.block k h1 fun h=>h⟩⟩
    simp [AV.leaves,TV.leaves] at hy
    subst hy
    simp [Lf.ltB]
  · have hβ:β 0 g:=hv3 g (by rw [e1];rfl)
    have hoff:∀ ad v,M ad=some v→ad.block≠g:=hH.off 0 g (by simp) hβ
    simp only [Cn.len,Cn.w,Nat.mul_one] at e3 e5 e6
    rw [show φ 0 = .slice (some ⟨g,0,none⟩) xs.length cap from e1]
    refine (h1 φ β M w us hH hA g cap cur hβ e2 e3 e4 e5 e6).mono ?_
    rintro ex w' ⟨rfl,hk,cur',k1,k2,k3⟩
    refine ⟨_,upd φ 0 (.slice (some ⟨g,0,none⟩) ys.length cap),β,M,rfl,Am.Mem.le_refl _,fun ad v h => .inl h,⟨fun a v h=>kept_cell hk (hH.mem a v h) (hoff a v h),fun i o hi => ?_,fun i g' hi hg'=>hH.off i g' hi hg',fun i j g' hi hj=>hH.inj i j g' hi hj,fun i g' hi hg'=>Nat.lt_of_lt_of_le (hH.lt i g' hi hg') hk.size,fun i o hi => ?_⟩,(upd_same _ _ _).symm,fun y hy => ?_,Nat.le_refl _,fun i hi => ?_,fun i g' hi hg' => .inr ⟨i,hi,hg'⟩,⟨hk.os,hk.tape,hk.output,hk.size,fun k h1 h2=>hk.block k h1 fun h=>h2 ⟨0,by simp,by rw [h];exact hβ⟩⟩⟩
    · match i,hi with
      | 0,hi =>
        simp at hi
        subst hi
        rw [upd_same]
        exact ⟨ys.map (Value.int .i64),⟨by simp [Cn.len,Cn.w],.inr ⟨g,cap,cur',rfl,Nat.zero_le _,k1,Nat.le_trans hle e3,e4,by simpa [Cn.w] using k2,by simpa [Cn.len,Cn.w] using k3⟩⟩,cells_ints,fun g' hg'=>by simp [blk] at hg';rw [← hg'];exact hβ⟩
      | i+1,hi =>
        have hi':rest[i]? = some o:=by simpa using hi
        have hil:=(List.getElem?_eq_some_iff.1 hi').1
        have ho:=hH.ob (i+1) o (by simpa using hi')
        have ho2:o.rel φ (β (i+1)) M w' (φ (i+1)):=Ob.rel_keep (o:=o) ho fun g' hg'=>hk.block g' (hH.lt (i+1) g' (by simpa using hil) hg') fun e=>by
          have:=hH.inj (i+1) 0 g' (by simpa using hil) (by simp) hg' (by rw [e];exact hβ)
          omega
        have hup:upd φ 0 (.slice (some ⟨g,0,none⟩) ys.length cap) (i+1)=φ (i+1):=rfl
        rw [hup]
        exact ob_rel0 (n:=rest.length+1) (hr0 o (List.mem_of_getElem? hi')) (hrl o (List.mem_of_getElem? hi')) (fun j hj=>by cases j with
          | zero=>exact absurd rfl hj
          | succ j=>rfl) ho2
    · match i,hi with
      | 0,hi=>simp at hi;subst hi;trivial
      | i+1,hi=>simp at hi;exact hrl o (List.mem_of_getElem? hi)
    · simp [AV.leaves,TV.leaves] at hy
      subst hy
      simp [Lf.ltB]
    · cases i with
      | zero=>simp at hi
      | succ i=>rfl
theorem delM_h (size:Int) (c4 c5 ok:B) (M:List Int) (K:List (List Int)) (O:List (List Int)) (xs:List Int) (hn:xs.length≤1000):DoesH Tryz.prog 149 [.lf (.own 0),.clo 150 [.ptr 1 0]] [false,true,true,true,true,true]
    [.row 3 (.ints xs),.box [.ptr 2 0],.box [.b (.val (.int .i64 size)),.own 3,.own 4,.own 5,.b c4,.b c5,.b ok],.row 3 (.ints M),.row 24 (.ii K),.row 40 (.k 2 O)] (.lf (.own 0))
    [.row 3 (.ints (opn xs M)),.box [.ptr 2 0],.box [.b (.val (.int .i64 size)),.own 3,.own 4,.own 5,.b c4,.b c5,.b ok],.row 3 (.ints M),.row 24 (.ii K),.row 40 (.k 2 O)]:=by
  have hE:Enters Tryz.prog 150:=fun _ _=>by kernel_rfl
  refine doesH_turnR (args:=[.clo 150 [.ptr 1 0]]) (rest:=[.box [.ptr 2 0],.box [.b (.val (.int .i64 size)),.own 3,.own 4,.own 5,.b c4,.b c5,.b ok],.row 3 (.ints M),.row 24 (.ii K),.row 40 (.k 2 O)]) (fun _ _=>by kernel_rfl) (List.length_filter_le _ _) (fun o ho y hy => ?_) (fun o ho => ?_) (fun hx φ β M' w us hH ha => ?_) fun φ β M' w us hH ha g cap cur hβ hg h1 h2 h3 h4 => ?_
  · simp only [List.mem_cons,List.not_mem_nil,or_false] at ho
    rcases ho with rfl | rfl | rfl | rfl | rfl<;>simp [obLs] at hy<;>(try rcases hy with rfl | rfl | rfl | rfl | rfl | rfl | rfl)<;>(try subst hy)<;>simp [Lf.nm]
  · simp only [List.mem_cons,List.not_mem_nil,or_false] at ho
    rcases ho with rfl | rfl | rfl | rfl | rfl
    · intro y hy;simp at hy;subst hy;simp [Lf.ltB]
    · intro y hy;simp at hy;rcases hy with rfl | rfl | rfl | rfl | rfl | rfl | rfl<;>simp [Lf.ltB]
    · trivial
    · trivial
    · trivial
  · obtain ⟨u,us',rfl,h1,h2⟩:∃ u us',us=u::us'∧(AV.clo 150 [.ptr 1 0]).rel φ M' u∧us'=[]:=by
      obtain ⟨k1,k2⟩:=ha
      match us,k1 with
      | [u],_=>exact ⟨u,[],rfl,k2 0 (by simp) (by simp),rfl⟩
    subst h2
    obtain ⟨lb,rfl,-⟩:=h1
    refine (deleteFunc_nil w 150 lb.toArray hE).mono ?_
    rintro e w' ⟨rfl,hb⟩
    exact ⟨rfl,Kept.of_below hb⟩
  · obtain ⟨u,us',rfl,hu,h5⟩:∃ u us',us=u::us'∧(AV.clo 150 [.ptr 1 0]).rel φ M' u∧us'=[]:=by
      obtain ⟨k1,k2⟩:=ha
      match us,k1 with
      | [u],_=>exact ⟨u,[],rfl,k2 0 (by simp) (by simp),rfl⟩
    subst h5
    obtain ⟨lb,rfl,hl1,hl2⟩:=hu
    obtain ⟨p1,rfl⟩:∃ p,lb=[p]:=by
      match lb,hl1 with
      | [p],_=>exact ⟨p,rfl⟩
    obtain ⟨g1,hp1,rfl⟩:∃ g,φ 1 = .pointer (some ⟨g,0,none⟩)∧p1 = .pointer (some ⟨g,0,none⟩):=hl2 0 (by simp) (by simp)
    obtain ⟨g1',arr1,t1,e1,e2,e3,e4⟩:=hH.ob 1 _ rfl
    rw [hp1] at e1
    simp only [Value.pointer.injEq,Option.some.injEq,Addr.mk.injEq,and_true] at e1
    subst e1
    obtain ⟨g2,arr2,t2,f1,f2,f3,f4⟩:=hH.ob 2 _ rfl
    obtain ⟨vs3,m1,m2,m3⟩:=hH.ob 3 _ rfl
    have hn1:g1≠g:=fun e=>by have:=hH.inj 1 0 g1 (by simp) (by simp) e4 (by rw [e];exact hβ);omega
    have hn2:g2≠g:=fun e=>by have:=hH.inj 2 0 g2 (by simp) (by simp) f4 (by rw [e];exact hβ);omega
    have c1:w.cell? ⟨g1,0,none⟩=some (.pointer (some ⟨g2,0,none⟩)):=by
      rw [Am.cell_heap e2]
      have hl:=e3.1
      have h0:0<arr1.toList.length:=by rw [hl];simp
      obtain ⟨g2',q1,q2⟩:∃ g,φ 2 = .pointer (some ⟨g,0,none⟩)∧arr1.toList[0] = .pointer (some ⟨g,0,none⟩):=e3.2 0 (by simp) h0
      rw [List.getElem?_eq_getElem h0,q2]
      rw [f1] at q1
      simp only [Value.pointer.injEq,Option.some.injEq,Addr.mk.injEq,and_true] at q1
      rw [q1]
    have c2:w.cell? ⟨g2,1,none⟩=some (φ 3):=by
      rw [Am.cell_heap f2]
      have hl:=f3.1
      have h0:1<arr2.toList.length:=by rw [hl];simp
      have q2:arr2.toList[1]=φ 3:=f3.2 1 (by simp) h0
      rw [List.getElem?_eq_getElem h0,q2]
    have c3:SlI w (φ 3) M:=by
      have:(B.sl (.ints M)).rel w.cell? (φ 3):=own_sl m1 (flat_rel rfl m2) fun ad v _ hv=>hv
      exact sl_of_si (fun _ _ h=>h) this
    have hb3:∀ g',blk (φ 3)=some g'→g'≠g:=fun g' hg' e=>by have:=hH.inj 3 0 g' (by simp) (by simp) (m3 g' hg') (by rw [e];exact hβ);omega
    have hO:OwI w g (g+1) (.slice (some ⟨g,0,none⟩) xs.length cap) xs:=⟨⟨by simp,.inr ⟨g,cap,cur,rfl,Nat.zero_le _,hg,h1,h2,by simpa using h3,by simpa using h4⟩⟩,fun g' hg'=>by simp [Value.ownBlock] at hg';omega⟩
    refine (deleteFunc_at w g cap xs 150 #[.pointer (some ⟨g1,0,none⟩)] (fun x=>M.contains x) (by omega) hE hO fun W' hF j hj => ?_).mono ?_
    · have hcell:∀ (a:Addr) v,a.block≠g→w.cell? a=some v→W'.cell? a=some v:=fun a v hne hv=>by
        have h7:=hF.block a.block (block_lt hv) (by omega)
        unfold World.cell? at hv ⊢
        rw [h7]
        exact hv
      have c3':SlI W' (φ 3) M:=by
        obtain ⟨A,cc,q1,q2,q3,q4⟩:=c3
        refine ⟨A,cc,q1,q2,q3,fun hne => ?_⟩
        obtain ⟨ad,q5,q6⟩:=q4 hne
        refine ⟨ad,q5,fun j hj=>hcell _ _ ?_ (q6 j hj)⟩
        have q7:(ad.add j).block=ad.block:=by unfold Addr.add;split<;>rfl
        rw [q7]
        exact hb3 _ (by rw [q1,q5];rfl)
      exact rq1_any W' g1 g2 xs[j] (φ 3) M (hcell _ _ hn1 c1) (hcell _ _ hn2 c2) c3'
    · rintro e w' ⟨zs,j1,j2,rfl,j3,j4⟩
      obtain ⟨⟨_,k⟩,_⟩:=j3
      rcases k with ⟨k,_⟩ | ⟨g',cap',cur',k1,_,k2,k3,k4,k5,k6⟩
      · cases k
      · simp only [Value.slice.injEq,Option.some.injEq,Addr.mk.injEq] at k1
        obtain ⟨⟨rfl,-,-⟩,-,rfl⟩:=k1
        refine ⟨rfl,⟨j4.os,j4.tape,j4.output,j4.size,fun k h1 h2=>j4.block k h1 (by omega)⟩,cur',k2,by simpa using k5,?_⟩
        have hle:(xs.filter fun x => !M.contains x).length≤zs.length:=by rw [j1];exact List.length_filter_le _ _
        simp only [Nat.mul_one] at k6
        have e:=congrArg (List.take (xs.filter fun x => !M.contains x).length) k6
        rw [List.take_take,Nat.min_eq_left hle,← List.map_take,j2] at e
        exact e
end Go.Proofs.YtjblpcgkffhgfaaGreat
