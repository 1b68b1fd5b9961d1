/- slices.Insert of one element into an own row, on the machine. Conditions: at most 1000 elements. -/
import Derived.Test.YtjblpcgkffhgfaaGreatIns
set_option linter.all false
set_option linter.unusedSimpArgs false
set_option linter.unusedVariables false
namespace Go.Proofs.YtjblpcgkffhgfaaGreat
open Go Go.RowKit Am

theorem insL_at {K k j o:Nat} {xs vs:List Value} (hv:vs.length=K) (hk:k*K≤xs.length) (ho:o<K):(insL K k xs vs)[j*K+o]? = if j<k then xs[j*K+o]? else if j=k then vs[o]? else xs[(j-1)*K+o]? := by
  unfold insL
  have htl:(xs.take (k*K)).length=k*K:=by rw [List.length_take];omega
  rcases Nat.lt_trichotomy j k with h | h | h
  · have h1:j*K+K≤k*K:=by rw [← Nat.succ_mul];exact Nat.mul_le_mul_right _ h
    rw [if_pos h,List.append_assoc,List.getElem?_append_left (by omega),List.getElem?_take_of_lt (by omega)]
  · subst h
    rw [if_neg (Nat.lt_irrefl _),if_pos rfl,List.append_assoc,List.getElem?_append_right (by omega),htl,List.getElem?_append_left (by omega)]
    congr 1
    omega
  · have h1:k*K+K≤j*K:=by rw [← Nat.succ_mul];exact Nat.mul_le_mul_right _ h
    have h2:(j-1)*K+K=j*K:=by rw [← Nat.succ_mul];congr 1;omega
    rw [if_neg (by omega),if_neg (by omega),List.getElem?_append_right (by rw [List.length_append];omega),List.getElem?_drop,List.length_append,htl,hv]
    congr 1
    omega
theorem ins_getD {α:Type} {l:List α} {x d:α} {k j:Nat} (hk:k≤l.length):(l.take k++[x]++l.drop k).getD j d=if j<k then l.getD j d else if j=k then x else l.getD (j-1) d:=by
  have htl:(l.take k).length=k:=by rw [List.length_take];omega
  simp only [List.getD_eq_getElem?_getD]
  rcases Nat.lt_trichotomy j k with h | h | h
  · rw [if_pos h,List.append_assoc,List.getElem?_append_left (by omega),List.getElem?_take_of_lt (by omega)]
  · subst h
    rw [if_neg (Nat.lt_irrefl _),if_pos rfl,List.append_assoc,List.getElem?_append_right (by omega),htl]
    simp
  · rw [if_neg (by omega),if_neg (by omega),List.getElem?_append_right (by simp;omega),List.getElem?_drop,List.length_append,htl]
    congr 2
    simp
    omega
theorem rel_ii_ins {M:Am.Mem} {l:List (List Int)} {x:List Int} {k:Nat} {xs vs:List Value} (hk:k≤l.length) (h1:(Cn.ii l).rel M xs) (h2:(Cn.ii [x]).rel M vs):(Cn.ii (l.take k++[x]++l.drop k)).rel M (insL 1 k xs vs):=by
  have hxl:xs.length=l.length:=by have:=h1.2.1;simpa [Cn.len,Cn.w] using this
  have hvl:vs.length=1:=by have:=h2.2.1;simpa [Cn.len,Cn.w] using this
  refine ⟨trivial,?_,fun j o hj ho => ?_⟩
  · rw [insL_len' (n:=l.length) hk (by omega) hvl]
    simp [Cn.len,Cn.w,Nat.min_eq_left hk]
    omega
  · have ho':o<1:=ho
    have hj':j<l.length+1:=by simp [Cn.len,Nat.min_eq_left hk] at hj;omega
    show ∃ u,(insL 1 k xs vs)[j*1+o]? = some u∧(B.sl (.ints ((l.take k++[x]++l.drop k).getD j []))).rel M u
    rw [insL_at hvl (by omega) ho',ins_getD hk]
    rcases Nat.lt_trichotomy j k with h | h | h
    · rw [if_pos h,if_pos h]
      exact h1.2.2 j o (by show j<l.length;omega) ho
    · simp only [h,Nat.lt_irrefl,if_false,if_true]
      obtain ⟨u,e,hu⟩:=h2.2.2 0 o (by simp [Cn.len]) ho
      exact ⟨u,by simpa [Cn.w] using e,hu⟩
    · have a1:¬ j<k:=by omega
      have a2:¬ j=k:=by omega
      simp only [a1,a2,if_false]
      exact h1.2.2 (j-1) o (by show j-1<l.length;omega) ho
theorem rel_k2_ins {M:Am.Mem} {l:List (List Int)} {x:List Int} {k:Nat} {xs vs:List Value} (hk:k≤l.length) (h1:(Cn.k 2 l).rel M xs) (h2:(Cn.k 2 [x]).rel M vs):(Cn.k 2 (l.take k++[x]++l.drop k)).rel M (insL 2 k xs vs):=by
  have hxl:xs.length=l.length*2:=h1.2.1
  have hvl:vs.length=2:=h2.2.1
  refine ⟨fun y hy => ?_,?_,fun j o hj ho => ?_⟩
  · rw [List.mem_append,List.mem_append,List.mem_singleton] at hy
    rcases hy with (hy | rfl) | hy
    · exact h1.1 y (List.mem_of_mem_take hy)
    · exact h2.1 y (by simp)
    · exact h1.1 y (List.mem_of_mem_drop hy)
  · rw [insL_len' (n:=l.length) hk (by omega) hvl]
    simp [Cn.len,Cn.w,Nat.min_eq_left hk]
    omega
  · have ho':o<2:=ho
    have hj':j<l.length+1:=by simp [Cn.len,Nat.min_eq_left hk] at hj;omega
    show ∃ u,(insL 2 k xs vs)[j*2+o]? = some u∧(B.val (.int .i64 (((l.take k++[x]++l.drop k).getD j []).getD o 0))).rel M u
    rw [insL_at hvl (by omega) ho',ins_getD hk]
    rcases Nat.lt_trichotomy j k with h | h | h
    · rw [if_pos h,if_pos h]
      exact h1.2.2 j o (by show j<l.length;omega) ho
    · simp only [h,Nat.lt_irrefl,if_false,if_true]
      obtain ⟨u,e,hu⟩:=h2.2.2 0 o (by simp [Cn.len]) ho
      exact ⟨u,by simpa [Cn.w] using e,hu⟩
    · have a1:¬ j<k:=by omega
      have a2:¬ j=k:=by omega
      simp only [a1,a2,if_false]
      exact h1.2.2 (j-1) o (by show j-1<l.length;omega) ho
theorem lit_one {u:Value} (h:litV u=true):u.oneCell'=true:=by cases u<;>first | rfl | simp [litV] at h
theorem doesH_insT {P:Program} {f e K:Nat} {c c' cv:Cn} {k:Nat} (hent:∀ (av:Array Value) (W:World),(callFunc f av).run P W = .ok (.enter f av) W) (hK:0<K) (hw:c.w=K) (hw':c'.w=K) (hwv:cv.w=K) (hlv:cv.len=1) (hl:c'.len=c.len+1)
    (hrel:∀ (M:Am.Mem) (xs vs:List Value),c.rel M xs→cv.rel M vs→c'.rel M (insL K k xs vs))
    (h:∀ (W:World) (v:Value) (xs:List Value) (A:Addr) (vc:Nat) (vs:List Value),W.ownsRow 0 e K v c.len xs→vs.length=K→(∀ g,v.ownBlock=some g→A.block≠g)→(∀ j u,vs[j]? = some u→W.cell? (A.add j)=some u)→(∀ u∈xs,u.oneCell'=true)→(∀ u∈vs,u.oneCell'=true) →
      Calls P f #[v,.int .i64 k,.slice (some A) 1 vc] W fun ex w'=>∃ u,ex = .returned u∧w'.ownsRow 0 e K u (c.len+1) (insL K k xs vs)∧W.grownBy w' v.ownBlock∧(u.ownBlock=v.ownBlock∨u.ownBlock=some W.heap.size)) :
    DoesH P f [.lf (.own 0),.int k,.sl cv] [true] [.row e c] (.lf (.own 1)) [.gone,.row e c']:=by
  refine ⟨hent,fun φ β M w us hH ha => ?_⟩
  obtain ⟨ha1,ha2⟩:=ha
  obtain ⟨u0,u1,u2,rfl⟩:∃ u0 u1 u2,us=[u0,u1,u2]:=by
    match us,ha1 with
    | [a,b,c],_=>exact ⟨a,b,c,rfl⟩
  have hu0:u0=φ 0:=ha2 0 (by simp) (by simp)
  have hu1:u1 = .int .i64 k:=ha2 1 (by simp) (by simp)
  have hu2:(B.sl cv).rel M u2:=ha2 2 (by simp) (by simp)
  subst hu0 hu1
  obtain ⟨vs,⟨A,vc,e1,k1,k2,k3⟩,k4⟩:=B.rel_sl.1 hu2
  have hvl:vs.length=K:=by rw [k4.2.1,hlv,hwv,Nat.one_mul]
  obtain ⟨ad,rfl,k5⟩:=k3 (by rintro rfl;simp at hvl;omega)
  rw [hlv] at e1
  subst e1
  obtain ⟨xs,hv1,hv2,hv3⟩:=hH.ob 0 _ rfl
  rw [hw] at hv1
  have hlt0:∀ g,(φ 0).ownBlock=some g→β 0 g:=fun g hg=>hv3 g (by rw [← blk_own hv1];exact hg)
  have hAb:∀ g,(φ 0).ownBlock=some g→ad.block≠g:=fun g hg=>by
    have h0:0<vs.length:=by omega
    have h1:=hH.off 0 g (by simp) (hlt0 g hg) _ _ (k5 0 h0)
    have h2:(ad.add 0).block=ad.block:=rfl
    rwa [h2] at h1
  refine (h w (φ 0) xs ad vc vs hv1 hvl hAb (fun j u hj => ?_) (fun u hu=>lit_one (lit_cells hv2 u hu)) (fun u hu=>lit_one (lit_cells k4 u hu))).mono ?_
  · obtain ⟨hj',rfl⟩:=List.getElem?_eq_some_iff.1 hj
    exact hH.mem _ _ (k5 j hj')
  rintro ex w' ⟨u,rfl,h1,h2,h3⟩
  have hblk:blk u=u.ownBlock:=(blk_own h1).symm
  have hu_lt:∀ g,blk u=some g→g<w'.heap.size:=fun g hg=>by
    rcases h1.2 with ⟨rfl,_⟩ | ⟨g',cap,cur,rfl,_,hg',_⟩
    · simp [blk] at hg
    · simp only [blk,Option.some.injEq] at hg
      subst hg
      exact (Array.getElem?_eq_some_iff.1 hg').1
  have hu_or:∀ g,blk u=some g→β 0 g∨w.heap.size≤g:=fun g hg=>by
    rw [hblk] at hg
    rcases h3 with h3 | h3
    · exact .inl (hlt0 g (by rw [← h3];exact hg))
    · rw [h3] at hg
      exact .inr (Nat.le_of_eq (Option.some.inj hg))
  have hmem:∀ a v,M a=some v→w'.cell? a=some v:=fun a v hv=>by
    have h5:=hH.mem a v hv
    have h6:=h2.block a.block (block_lt h5) (fun e=>hH.off 0 a.block (by simp) (hlt0 _ e.symm) a v hv rfl)
    unfold World.cell? at h5 ⊢
    rw [h6]
    exact h5
  refine ⟨u,fun i=>match i with | 0=>φ 0 | _=>u,fun i g=>i=1∧blk u=some g,M,rfl,Am.Mem.le_refl _,fun ad v h => .inl h,⟨hmem,fun i o hi => ?_,fun i g hi hg a v hv => ?_,fun i j g _ _ h5 h6=>h5.1.trans h6.1.symm,fun i g _ hg=>hu_lt g hg.2,fun i o hi => ?_⟩,rfl,fun y hy => ?_,by simp,fun i hi => ?_,fun i g _ hg => ?_,⟨h2.os,h2.tape,h2.output,h2.size,fun g h5 h6=>h2.block g h5 fun e=>h6 ⟨0,by simp,hlt0 g e.symm⟩⟩⟩
  · match i,hi with
    | 0,hi =>
      simp at hi
      subst hi
      trivial
    | 1,hi =>
      simp at hi
      subst hi
      exact ⟨insL K k xs vs,by rw [hw',hl];exact h1,hrel M xs vs hv2 k4,fun g hg=>⟨rfl,hg⟩⟩
    | i+2,hi=>simp at hi
  · intro e
    rcases hu_or g hg.2 with h5 | h5
    · exact hH.off 0 g (by simp) h5 a v hv e
    · have:=block_lt (hH.mem a v hv)
      omega
  · match i,hi with
    | 0,hi=>simp at hi;subst hi;trivial
    | 1,hi=>simp at hi;subst hi;trivial
    | i+2,hi=>simp at hi
  · simp [AV.leaves,TV.leaves] at hy
    subst hy
    rfl
  · match i,hi with
    | 0,_=>rfl
    | i+1,hi=>simp at hi
  · rcases hu_or g hg.2 with h5 | h5
    · exact .inr ⟨0,by simp,h5⟩
    · exact .inl h5
theorem insA_any (W:World) (v:Value) (n k:Nat) (xs:List Value) (hn:n≤1000) (hk:k≤n) (hown:W.ownsRow 0 24 1 v n xs) (A:Addr) (vc:Nat) (vs:List Value) (hvl:vs.length=1) (hA:∀ g,v.ownBlock=some g→A.block≠g)
    (hv:∀ j u,vs[j]? = some u→W.cell? (A.add j)=some u) (h1c:∀ u∈xs,u.oneCell'=true) (h1v:∀ u∈vs,u.oneCell'=true) :
    Calls Tryz.prog 174 #[v,.int .i64 k,.slice (some A) 1 vc] W fun e w'=>∃ u,e = .returned u∧w'.ownsRow 0 24 1 u (n+1) (insL 1 k xs vs)∧W.grownBy w' v.ownBlock∧(u.ownBlock=v.ownBlock∨u.ownBlock=some W.heap.size):=by
  rcases Nat.lt_or_ge k n with hlt | hge
  · obtain ⟨hxl,h2⟩:=hown
    rcases h2 with ⟨_,h0⟩ | ⟨g,cap,cur,rfl,_,hg,hnc,hcm,hsz,ht⟩
    · omega
    · have hA':=hA g rfl
      rw [← ht] at h1c ⊢
      rcases Nat.lt_or_ge cap (n+1) with hr | hr
      · refine (insA_grow W g n cap k cur A vc vs hlt hn hnc hr hg hsz hvl hv h1c h1v).mono ?_
        rintro e w' ⟨u,rfl,h3,h4,h5⟩
        exact ⟨u,rfl,h3,h4,.inr h5⟩
      · refine (insA_shift W g n cap k cur A vc vs hlt hr hcm hg hsz hA' hvl hv h1c h1v).mono ?_
        rintro e w' ⟨rfl,cur',h3,h4,h5,h6⟩
        exact ⟨_,rfl,⟨insL_len' hk (by rw [ht];exact hxl) hvl,.inr ⟨g,cap,cur',rfl,Nat.zero_le _,h3,hr,hcm,h4,h5⟩⟩,h6,.inl rfl⟩
  · obtain rfl:k=n:=by omega
    refine (insA_end W v k xs hn hown A vc vs hvl hv h1v).mono ?_
    rintro e w' ⟨u,rfl,h3,h4,h5⟩
    have e1:insL 1 k xs vs=xs++vs:=by
      unfold insL
      rw [← hown.1,List.take_length,List.drop_length,List.append_nil]
    exact ⟨u,rfl,by rw [e1];exact h3,h4,h5⟩
theorem insA_h (l:List (List Int)) (x:List Int) (k:Nat) (hn:l.length≤1000) (hk:k≤l.length):DoesH Tryz.prog 174 [.lf (.own 0),.int k,.sl (Cn.ii [x])] [true] [.row 24 (Cn.ii l)] (.lf (.own 1)) [.gone,.row 24 (Cn.ii (l.take k++[x]++l.drop k))] :=
  doesH_insT (K:=1) (fun _ _=>by kernel_rfl) (by decide) rfl rfl rfl rfl (by simp [Cn.len,Nat.min_eq_left hk];omega) (fun M xs vs h1 h2=>rel_ii_ins hk h1 h2) fun W v xs A vc vs h1 h2 h3 h4 h5 h6=>insA_any W v l.length k xs hn hk h1 A vc vs h2 h3 h4 h5 h6
theorem insB_any (W:World) (v:Value) (n k:Nat) (xs:List Value) (hn:n≤1000) (hk:k≤n) (hown:W.ownsRow 0 40 2 v n xs) (A:Addr) (vc:Nat) (vs:List Value) (hvl:vs.length=2) (hA:∀ g,v.ownBlock=some g→A.block≠g)
    (hv:∀ j u,vs[j]? = some u→W.cell? (A.add j)=some u) (h1c:∀ u∈xs,u.oneCell'=true) (h1v:∀ u∈vs,u.oneCell'=true) :
    Calls Tryz.prog 175 #[v,.int .i64 k,.slice (some A) 1 vc] W fun e w'=>∃ u,e = .returned u∧w'.ownsRow 0 40 2 u (n+1) (insL 2 k xs vs)∧W.grownBy w' v.ownBlock∧(u.ownBlock=v.ownBlock∨u.ownBlock=some W.heap.size):=by
  rcases Nat.lt_or_ge k n with hlt | hge
  · obtain ⟨hxl,h2⟩:=hown
    rcases h2 with ⟨_,h0⟩ | ⟨g,cap,cur,rfl,_,hg,hnc,hcm,hsz,ht⟩
    · omega
    · have hA':=hA g rfl
      rw [← ht] at h1c ⊢
      rcases Nat.lt_or_ge cap (n+1) with hr | hr
      · refine (insB_grow W g n cap k cur A vc vs hlt hn hnc hr hg hsz hvl hv h1c h1v).mono ?_
        rintro e w' ⟨u,rfl,h3,h4,h5⟩
        exact ⟨u,rfl,h3,h4,.inr h5⟩
      · refine (insB_shift W g n cap k cur A vc vs hlt hr hcm hg hsz hA' hvl hv h1c h1v).mono ?_
        rintro e w' ⟨rfl,cur',h3,h4,h5,h6⟩
        exact ⟨_,rfl,⟨insL_len' hk (by rw [ht];exact hxl) hvl,.inr ⟨g,cap,cur',rfl,Nat.zero_le _,h3,hr,hcm,h4,h5⟩⟩,h6,.inl rfl⟩
  · obtain rfl:k=n:=by omega
    refine (insB_end W v k xs hn hown A vc vs hvl hv h1v).mono ?_
    rintro e w' ⟨u,rfl,h3,h4,h5⟩
    have e1:insL 2 k xs vs=xs++vs:=by
      unfold insL
      rw [← hown.1,List.take_length,List.drop_length,List.append_nil]
    exact ⟨u,rfl,by rw [e1];exact h3,h4,h5⟩
theorem insB_h (l:List (List Int)) (x:List Int) (k:Nat) (hn:l.length≤1000) (hk:k≤l.length):DoesH Tryz.prog 175 [.lf (.own 0),.int k,.sl (Cn.k 2 [x])] [true] [.row 40 (Cn.k 2 l)] (.lf (.own 1)) [.gone,.row 40 (Cn.k 2 (l.take k++[x]++l.drop k))] :=
  doesH_insT (K:=2) (fun _ _=>by kernel_rfl) (by decide) rfl rfl rfl rfl (by simp [Cn.len,Nat.min_eq_left hk];omega) (fun M xs vs h1 h2=>rel_k2_ins hk h1 h2) fun W v xs A vc vs h1 h2 h3 h4 h5 h6=>insB_any W v l.length k xs hn hk h1 A vc vs h2 h3 h4 h5 h6
end Go.Proofs.YtjblpcgkffhgfaaGreat
