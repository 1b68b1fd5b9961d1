/- slices.Insert of one element into an own row, elements of one cell (slices) and of two (fractions). Conditions: at most 1000 elements. -/
import Derived.Lib.AppendZerosOnto
import Derived.Laws.Externs
import Derived.Laws.CopyRow
import Derived.Deep.RegionLaw
import Derived.Shelf.RegionOpenPlain
import Derived.Test.YtjblpcgkffhgfaaGreatGRQ
set_option linter.all false
set_option linter.unusedSimpArgs false
set_option linter.unusedVariables false
namespace Go.Proofs.YtjblpcgkffhgfaaGreat
open Go Go.RowKit Am

theorem run_copy_rowK {P:Program} (K:Nat) (w:World) (dT sT ty elem:TypeId) (g o dLen dCap:Nat) (a:Addr) (sLen sCap:Nat) (cur:Array Value) (t:TypeId) (cs:List Value)
    (hu:P.underlying dT=some (.slice elem)) (hs:(P.info? elem).map (·.size)=some K)
    (hg:w.heap[g]? = some (.cells cur t (0,0))) (hn:cs.length=Nat.min sLen dLen*K)
    (hsrc:∀ j v,cs[j]? = some v→w.cell? (a.add j)=some v) (hfit:o+cs.length≤cur.size) (h1:∀ v∈cs,v.oneCell'=true) :
    (Builtin.copy_ #[dT,sT] ty #[.slice (some ⟨g,o,none⟩) dLen dCap,.slice (some a) sLen sCap]).run P w =
      .ok (goInt (Nat.min sLen dLen)) (w.setRow g (cur.toList.take o++cs++cur.toList.drop (o+cs.length)).toArray):=by
  have hl:=run_loadCells_list (P:=P) w a cs hsrc
  have hst:=run_storeCells_at P g o t cs 0 cur w hg (by simpa using hfit) h1
  cases hq:P.info? elem with
  | none=>simp [hq] at hs
  | some i =>
    have hi:i.size=K:=by simpa [hq] using hs
    simp [Builtin.copy_,run_underlying hu,Builtin.lenOf,Builtin.firstCells,sizeOf,typeInfo,hq,hi,← hn,hl,hst]
theorem wp_copyK {P:Program} (w:World) {o:Oper} {a:Act} {K:Act→World→Prop} {Q:Exit→Act→World→Prop} (d s:Operand) (t t':TypeId)
    (ho:o.op = .call { callee := .builtin .copy,args:=#[d,s],argTypes:=#[t,t'] }) (v u:Value) (hd:a.eval d=v) (hs:a.eval s=u) {v':Value} {w':World}
    (hr:(Builtin.copy_ #[t,t'] o.type #[v,u]).run P w = .ok v' w') (h:K (a.put o.dst v') w'):o.wp P a w K Q:=by
  unfold Oper.wp execOp
  simp only [ho,resolve,invoke,builtin,Sem.run_bind,Sem.run_pure,Result.andThen_ok,List.map_toArray,List.map_cons,List.map_nil,hd,hs,hr]
  exact h
theorem wpl_copyK {P:Program} (w:World) {ops:Array Oper} {rest:List Oper} {o:Oper} {a:Act} {Q:Exit→Act→World→Prop} (hgd:o.guard=none) (d s:Operand) (t t':TypeId)
    (ho:o.op = .call { callee := .builtin .copy,args:=#[d,s],argTypes:=#[t,t'] }) (v u:Value) (hd:a.eval d=v) (hs:a.eval s=u) {v':Value} {w':World}
    (hr:(Builtin.copy_ #[t,t'] o.type #[v,u]).run P w = .ok v' w') (h:wpList P ops Q rest (a.put o.dst v') w'):wpList P ops Q (o::rest) a w :=
  wpList_plain hgd fun _ hK=>wp_copyK w d s t t' ho v u hd hs hr (hK _ _ h)
theorem step_copyK {P:Program} {ops:Array Oper} {o:Oper} {a:Act} {w:World} {K:Act→World→Prop} {Q:Exit→Act→World→Prop} {E:Prop}
    (hg:o.guard=none) (d x:Operand) (dT sT:TypeId) (hop:o.op=Op.call { callee:=Callee.builtin Builtin.copy,args:=#[d,x],argTypes:=#[dT,sT] })
    (v u:Value) (hd:a.eval d=v) (hx:a.eval x=u) {v':Value} {w':World} (hr:(Builtin.copy_ #[dT,sT] o.type #[v,u]).run P w = .ok v' w') (hK:K (a.put o.dst v') w') :
    if Region.wanted o (yielded ops a.tmps)=true then Oper.wp P o a w K Q else E:=by
  have hw:Region.wanted o (yielded ops a.tmps)=true:=by simp [Region.wanted,hg]
  rw [if_pos hw]
  unfold Oper.wp
  simp [execOp,hop,resolve,invoke,builtin,hd,hx,hr,Result.andThen]
  exact hK
theorem wpl_appK {P:Program} (w:World) {ops:Array Oper} {rest:List Oper} {o:Oper} {a:Act} {Q:Exit→Act→World→Prop} (hgd:o.guard=none) (d s:Operand) (t t':TypeId)
    (ho:o.op = .call { callee := .builtin .append,args:=#[d,s],argTypes:=#[t,t'] }) (v u:Value) (hd:a.eval d=v) (hs:a.eval s=u) {v':Value} {w':World}
    (hr:(Builtin.append_ #[t,t'] o.type #[v,u]).run P w = .ok v' w') (h:wpList P ops Q rest (a.put o.dst v') w'):wpList P ops Q (o::rest) a w :=
  wpList_plain hgd fun _ hK=>by
    unfold Oper.wp execOp
    simp only [ho,resolve,invoke,builtin,Sem.run_bind,Sem.run_pure,Result.andThen_ok,List.map_toArray,List.map_cons,List.map_nil,hd,hs,hr]
    exact hK _ _ h
/-- two slices in two blocks, the second of which is an own row: they do not overlap -/
theorem run_apart {P:Program} (w:World) (tS tR e:TypeId) (ht:P.underlying tS=some (.slice e)) (size:Nat) (hz:∀ w,(Go.sizeOf e).run P w = .ok size w)
    (a b:Addr) (la ca lb cb:Nat) (hne:a.block≠b.block) {ka kb:Array Value} {ta tb:TypeId} {fa:Nat×Nat} (hsa:w.heap[a.block]? = some (.cells ka ta fa)) (hsb:w.heap[b.block]? = some (.cells kb tb (0,0))) (hka:ka.size≠0) (hkb:kb.size≠0) :
    (Extern.SlicesOverlaps.overlaps #[tS,tS] #[tR] #[.slice (some a) la ca,.slice (some b) lb cb]).run P w = .ok (.bool false) w:=by
  have hnb:(a.block != b.block)=true:=by simpa using hne
  have hnb':(a.block == b.block)=false:=by simpa using hne
  have s1:w.shape? a.block=some (ta,ka.size):=by unfold World.shape?;rw [hsa]
  have s2:w.shape? b.block=some (tb,kb.size):=by unfold World.shape?;rw [hsb]
  have f2:w.frozen? b=false:=by unfold World.frozen?;rw [hsb];simp
  have f3:w.frozen? { block:=b.block,off:=kb.size }=false:=by unfold World.frozen?;simp only [hsb];simp
  change Sem.run P (α:=Value) (do
    let some t := (#[tS, tS] : Array TypeId)[0]? | stuck "slices.overlaps: no parameter types"
    let .slice elem ← underlying t | stuck "slices.overlaps: slice type expected"
    let size ← sizeOf elem
    match (some a:Option Addr),(some b:Option Addr) with
    | some a,some b =>
      if la=0∨lb=0∨size=0 then pure (Value.bool false)
      else if a.block != b.block && (← frozen a) && (← frozen b) then unsupported .addressObserved
      else do
        if a.block != b.block then do
          noView a;noView b
          if ← mayBeOne a b then return Value.bool ((← choose (.extern "sameAddr.stringBytes" 2)) == 1)
        pure (Value.bool (a.block == b.block && a.off<b.off+lb*size && b.off<a.off+la*size))
    | _,_=>pure (Value.bool false)) w=_
  by_cases h0:la=0∨lb=0∨size=0
  · simp [run_underlying ht,hz,h0]
  · obtain ⟨n,hn⟩:∃ n,kb.size=n+1:=⟨kb.size-1,by omega⟩
    obtain ⟨n2,hn2⟩:∃ n,ka.size=n+1:=⟨ka.size-1,by omega⟩
    rw [hn] at s2 f3
    rw [hn2] at s1
    simp [run_underlying ht,hz,h0,hnb,hnb',frozen,noView,viewAt,mayBeOne,stringish,shape,Sem.run,s1,s2,f2,f3]
/-- what an insert leaves -/
def insL (K k:Nat) (cs vs:List Value):List Value:=cs.take (k*K)++vs++cs.drop (k*K)
theorem insL_len' {K k n:Nat} {xs vs:List Value} (hk:k≤n) (hL:xs.length=n*K) (hv:vs.length=K):(insL K k xs vs).length=(n+1)*K:=by
  have h1:k*K≤n*K:=Nat.mul_le_mul_right _ hk
  unfold insL
  simp only [List.length_append,List.length_take,List.length_drop,hv,hL,Nat.add_mul,Nat.one_mul]
  omega
theorem ins_row0 {a b K:Nat} {L vs:List Value} (h1:a≤b) (hL:b+K≤L.length) (hv:vs.length=K) (cs R1 R2:List Value) (hcs:cs=(L.take b).drop a) (hR1:R1=L.take (a+K)++cs++L.drop (a+K+cs.length))
    (hR2:R2=R1.take a++vs++R1.drop (a+vs.length)):cs.length=b-a∧R1.length=L.length∧R2.length=L.length∧R2.take (b+K)=(L.take b).take a++vs++(L.take b).drop a:=by
  have hcl:cs.length=b-a:=by rw [hcs,List.length_drop,List.length_take];omega
  have e1:R1.take a=L.take a:=by
    rw [hR1,List.append_assoc,List.take_append_of_le_length (by rw [List.length_take];omega),List.take_take]
    congr 1
    omega
  have e2:R1.drop (a+vs.length)=cs++L.drop (b+K):=by
    rw [hR1,hv,List.append_assoc,List.drop_append_of_le_length (by rw [List.length_take];omega),List.drop_eq_nil_of_le (by rw [List.length_take];omega),List.nil_append,hcl]
    congr 2
    omega
  have hR1l:R1.length=L.length:=by
    rw [hR1]
    simp only [List.length_append,List.length_take,List.length_drop,hcl]
    omega
  refine ⟨hcl,hR1l,?_,?_⟩
  · rw [hR2]
    simp only [List.length_append,List.length_take,List.length_drop,hR1l,hv]
    omega
  · rw [hR2,e1,e2,← List.append_assoc,List.take_append_of_le_length (by simp only [List.length_append,List.length_take,hcl,hv];omega),List.take_of_length_le (by simp only [List.length_append,List.length_take,hcl,hv];omega)]
    rw [List.take_take,hcs]
    congr 3
    omega
theorem ins_row {K k n:Nat} {L vs:List Value} (hk:k≤n) (hL:(n+1)*K≤L.length) (hv:vs.length=K) (cs R1 R2:List Value) (hcs:cs=(L.take (n*K)).drop (k*K)) (hR1:R1=L.take ((k+1)*K)++cs++L.drop ((k+1)*K+cs.length))
    (hR2:R2=R1.take (k*K)++vs++R1.drop (k*K+vs.length)):cs.length=(n-k)*K∧R1.length=L.length∧R2.length=L.length∧R2.take ((n+1)*K)=insL K k (L.take (n*K)) vs:=by
  rw [Nat.add_mul,Nat.one_mul] at hL hR1 ⊢
  rw [Nat.sub_mul]
  exact ins_row0 (Nat.mul_le_mul_right _ hk) hL hv cs R1 R2 hcs hR1 hR2
theorem insA_info:(Tryz.prog.info? 24).map (fun i=>(i.zero,i.size,i.bytes))=some (some (Value.slice none 0 0),1,24):=by kernel_rfl
theorem insA_size:(Tryz.prog.info? 24).map (·.size)=some 1:=by kernel_rfl
theorem insA_ov (w:World) (A B:Addr) (la ca lb cb:Nat) (hne:A.block≠B.block) {ka kb:Array Value} {ta tb:TypeId} {fa:Nat×Nat} (hsa:w.heap[A.block]? = some (.cells ka ta fa)) (hsb:w.heap[B.block]? = some (.cells kb tb (0,0))) (hka:ka.size≠0) (hkb:kb.size≠0):(callFunc 190 #[.slice (some A) la ca,.slice (some B) lb cb]).run Tryz.prog w = .ok (.value (.bool false)) w:=by
  rw [run_callFunc_extern Tryz.func190 (by kernel_rfl) (by kernel_rfl) (by kernel_rfl) (e:=Extern.SlicesOverlaps.overlaps #[35,35] #[4]) (by kernel_rfl),
    run_apart w 35 4 24 Tryz.underlying35 1 (fun w=>by kernel_rfl) A B la ca lb cb hne hsa hsb hka hkb]
  rfl
set_option maxHeartbeats 4000000 in
set_option maxRecDepth 100000 in
theorem insA_shift (W:World) (g n cap k:Nat) (cur:Array Value) (A:Addr) (vc:Nat) (vs:List Value) (hk:k<n) (hroom:n+1≤cap) (hcap:cap≤maxLen) (hg:W.heap[g]? = some (.cells cur 24 (0,0))) (hsz:cur.size=cap*1) (hA:A.block≠g) (hvl:vs.length=1)
    (hv:∀ j v,vs[j]? = some v→W.cell? (A.add j)=some v) (h1c:∀ v∈cur.toList.take (n*1),v.oneCell'=true) (h1v:∀ v∈vs,v.oneCell'=true) :
    Calls Tryz.prog 174 #[.slice (some ⟨g,0,none⟩) n cap,.int .i64 k,.slice (some A) 1 vc] W fun e w'=>e = .returned (.slice (some ⟨g,0,none⟩) (n+1) cap) ∧
      ∃ cur':Array Value,w'.heap[g]? = some (.cells cur' 24 (0,0))∧cur'.size=cap*1∧cur'.toList.take ((n+1)*1)=insL 1 k (cur.toList.take (n*1)) vs∧W.grownBy w' (some g):=by
  have hmx:maxLen≤9223372036854775807:=by decide
  have hsz2:cur.toList.length=cap*1:=by simpa using hsz
  have hmul:(n+1)*1≤cap*1:=Nat.mul_le_mul_right _ hroom
  have mixed:Tryz.prog.follows .mixedOrders=true:=by kernel_rfl
  have hAj:∀ j,(A.add j).block=A.block:=fun j=>by unfold Addr.add;split<;>rfl
  obtain ⟨cs,hcs⟩:∃ cs,cs=(cur.toList.take (n*1)).drop (k*1):=⟨_,rfl⟩
  obtain ⟨R1,hR1⟩:∃ R1,R1=cur.toList.take ((k+1)*1)++cs++cur.toList.drop ((k+1)*1+cs.length):=⟨_,rfl⟩
  obtain ⟨R2,hR2⟩:∃ R2,R2=R1.take (k*1)++vs++R1.drop (k*1+vs.length):=⟨_,rfl⟩
  obtain ⟨hcl,hl1,hl2,hlt⟩:=ins_row (K:=1) (k:=k) (n:=n) (L:=cur.toList) (vs:=vs) (by omega) (by rw [hsz2];exact hmul) hvl cs R1 R2 hcs hR1 hR2
  have hcell:∀ j v,cs[j]? = some v→W.cell? ((⟨g,k*1,none⟩:Addr).add j)=some v:=fun j v hj=>by
    rw [add_lit,Am.cell_heap hg]
    rw [hcs,List.getElem?_drop,List.getElem?_take] at hj
    split at hj
    · exact hj
    · cases hj
  have hone:∀ v∈cs,v.oneCell'=true:=fun v h=>h1c v (List.mem_of_mem_drop (by rw [hcs] at h;exact h))
  have hkK:k*1+cs.length=n*1:=by rw [hcl,← Nat.add_mul];congr 1;omega
  have hA0:∃ arr t fz,W.heap[A.block]? = some (.cells arr t fz)∧arr.size≠0:=by
    have:=hv 0 _ (List.getElem?_eq_getElem (show 0<vs.length by omega))
    unfold World.cell? at this
    split at this
    · rename_i c t fz hh
      have e:(A.add 0).block=A.block:=rfl
      rw [e] at hh
      split at this
      · cases this
      · exact ⟨_,_,_,hh,fun h0=>by rw [Array.getElem?_eq_none (by omega)] at this;cases this⟩
    · cases this
  obtain ⟨arr,ta,fz,hA1,hA2⟩:=hA0
  have hov:∀ o lb cb,(callFunc 190 #[.slice (some A) 1 vc,.slice (some ⟨g,o,none⟩) lb cb]).run Tryz.prog W = .ok (.value (.bool false)) W:=fun o lb cb=>insA_ov W A ⟨g,o,none⟩ 1 vc lb cb hA hA1 hg hA2 (by rw [hsz];omega)
  have hcp1:∀ (W1:World),(∀ x,W1.cell? x=W.cell? x)→W1.heap[g]? = W.heap[g]? → ∀ ty o o' dl dc sl sc,o=(k+1)*1→o'=k*1→Nat.min sl dl=n-k→(Builtin.copy_ #[35,35] ty #[.slice (some ⟨g,o,none⟩) dl dc,.slice (some ⟨g,o',none⟩) sl sc]).run Tryz.prog W1 = .ok (goInt ((n-k:Nat):Int)) (W1.setRow g R1.toArray):=fun W1 h1 h2 ty o o' dl dc sl sc ho ho' hm=>by
    subst ho ho'
    have:=run_copy_rowK (P:=Tryz.prog) 1 W1 35 35 ty 24 g ((k+1)*1) dl dc ⟨g,k*1,none⟩ sl sc cur 24 cs Tryz.underlying35 insA_size (h2.trans hg) (by rw [hm];exact hcl) (fun j v hj=>(h1 _).trans (hcell j v hj)) (by rw [hsz,Nat.add_mul];omega) hone
    rw [hm,← hR1] at this
    exact this
  have hcp2:∀ (W1:World),(∀ x:Addr,x.block≠g→W1.cell? x=W.cell? x)→W1.heap[g]? = some (.cells R1.toArray 24 (0,0))→∀ ty o dl dc,o=k*1→Nat.min 1 dl=1→(Builtin.copy_ #[35,35] ty #[.slice (some ⟨g,o,none⟩) dl dc,.slice (some A) 1 vc]).run Tryz.prog W1 = .ok (goInt 1) (W1.setRow g R2.toArray):=fun W1 h1 h2 ty o dl dc ho hm=>by
    subst ho
    have:=run_copy_rowK (P:=Tryz.prog) 1 W1 35 35 ty 24 g (k*1) dl dc A 1 vc R1.toArray 24 vs Tryz.underlying35 insA_size h2 (by rw [hm,hvl,Nat.one_mul]) (fun j v hj=>(h1 (A.add j) (by rw [hAj];exact hA)).trans (hv j v hj)) (by have:k*1+1≤n*1:=(by rw [← Nat.succ_mul];exact Nat.mul_le_mul_right _ hk);simp only [List.size_toArray,hl1,hsz2,hvl];omega) h1v
    rw [hm] at this
    rw [List.toList_toArray,← hR2] at this
    exact this
  clear hcell hone h1c h1v hv hA hA1 hcs hR1 hR2
  go_enter Tryz.func174,Tryz.ntmps174
  go_wp2_with (simp only [hov])
  have hki:IntKind.i64.wrap ((k:Int)+1)=(k:Int)+1:=by rw [IntKind.wrap_i64];omega
  have hkn:((k:Int)+1).toNat=k+1:=by omega
  have hb0:(0:Int)≤(k:Int)+1:=by omega
  have hb1:(k:Int)+1≤(n:Int)+1:=by omega
  have hb2:¬ (cap=k+1):=by omega
  have hb3:(k:Int)≤(n:Int)+1:=by omega
  have hb4:¬ (cap=k):=by omega
  go_region_law_o (refine step_copyK rfl _ _ 35 35 rfl _ _ (by simp [Act.eval,Act.put]) (by simp [Act.eval,Act.put]) (hcp1 W.drew (fun _=>rfl) rfl _ ((k+1)*1) (k*1) (n+1-(k+1)) (cap-(k+1)) (n+1-k) (cap-k) rfl rfl (by simp only [Nat.min_def];split<;>omega)) ?_)
  go_wp2_with (with_reducible show wpList _ _ _ _ _ _
               refine wpl_copyK _ rfl _ _ 35 35 rfl _ _ rfl rfl (hcp2 (W.drew.setRow g R1.toArray) (fun x hx=>cell_setRow_other W.drew g _ x hx) (setRow_heap W.drew g cur R1.toArray 24 (0,0) hg) _ _ _ _ (by first | rfl | omega) (by simp only [Nat.min_def];split<;>omega)) ?_)
  go_ret
  refine ⟨rfl,R2.toArray,setRow_heap _ g R1.toArray R2.toArray 24 (0,0) (setRow_heap W.drew g cur R1.toArray 24 (0,0) hg),?_,hlt,?_⟩
  · simpa [hl2] using hsz
  · exact ⟨rfl,rfl,rfl,by simp,fun j _ hj=>by
      have hne:j≠g:=fun e=>hj (by rw [e])
      exact (setRow_other _ _ _ _ hne).trans (setRow_other _ _ _ _ hne)⟩
set_option maxHeartbeats 4000000 in
set_option maxRecDepth 100000 in
theorem insA_end (W:World) (v:Value) (n:Nat) (xs:List Value) (hn:n≤1000) (hown:W.ownsRow 0 24 1 v n xs) (A:Addr) (vc:Nat) (vs:List Value) (hvl:vs.length=1)
    (hv:∀ j v,vs[j]? = some v→W.cell? (A.add j)=some v) (h1v:∀ v∈vs,v.oneCell'=true) :
    Calls Tryz.prog 174 #[v,.int .i64 n,.slice (some A) 1 vc] W fun e w'=>∃ u,e = .returned u∧w'.ownsRow 0 24 1 u (n+1) (xs++vs)∧W.grownBy w' v.ownBlock∧(u.ownBlock=v.ownBlock∨u.ownBlock=some W.heap.size):=by
  have hmx:maxLen≤9223372036854775807:=by decide
  have mixed:Tryz.prog.follows .mixedOrders=true:=by kernel_rfl
  obtain ⟨i0,hi0,hi1⟩:=Option.map_eq_some_iff.1 insA_info
  simp only [Prod.mk.injEq] at hi1
  obtain ⟨hi1,hi2,hi3⟩:=hi1
  have hmx2:1001≤maxLen:=by decide
  obtain ⟨u,w',hr,h1,h2,-,h4⟩:=run_append_own_at W 0 35 35 24 i0 (Value.slice none 0 0) 1 24 Tryz.underlying35 hi0 hi1 hi2 hi3 rfl (by decide) v n xs hown A 1 vc vs (by rw [hvl,Nat.one_mul]) hv h1v (by omega) (by omega) (Nat.zero_le _)
  clear hi1 hi2 hi3 hi0 hv h1v hvl
  rcases hown.2 with ⟨rfl,rfl⟩ | ⟨g,cap,cur,rfl,-,hg,hnc,hcm,-,-⟩
  · clear hown
    go_enter Tryz.func174,Tryz.ntmps174
    go_wp2_with (with_reducible show wpList _ _ _ _ _ _
                 refine wpl_appK _ rfl _ _ 35 35 rfl _ _ rfl rfl hr ?_)
    go_ret
    exact ⟨u,rfl,h1,h2,h4⟩
  · clear hown
    go_enter Tryz.func174,Tryz.ntmps174
    go_wp2_with (with_reducible show wpList _ _ _ _ _ _
                 refine wpl_appK _ rfl _ _ 35 35 rfl _ _ rfl rfl hr ?_)
    all_goals go_ret
    all_goals exact ⟨u,rfl,h1,h2,h4⟩
set_option maxHeartbeats 4000000 in
set_option maxRecDepth 100000 in
theorem insA_grow (W:World) (g n cap k:Nat) (cur:Array Value) (A:Addr) (vc:Nat) (vs:List Value) (hk:k<n) (hn:n≤1000) (hnc:n≤cap) (hroom:cap<n+1) (hg:W.heap[g]? = some (.cells cur 24 (0,0))) (hsz:cur.size=cap*1) (hvl:vs.length=1)
    (hv:∀ j v,vs[j]? = some v→W.cell? (A.add j)=some v) (h1c:∀ v∈cur.toList.take (n*1),v.oneCell'=true) (h1v:∀ v∈vs,v.oneCell'=true) :
    Calls Tryz.prog 174 #[.slice (some ⟨g,0,none⟩) n cap,.int .i64 k,.slice (some A) 1 vc] W fun e w'=>∃ u,e = .returned u∧w'.ownsRow 0 24 1 u (n+1) (insL 1 k (cur.toList.take (n*1)) vs)∧W.grownBy w' (some g)∧u.ownBlock=some W.heap.size:=by
  have hmx:maxLen≤9223372036854775807:=by decide
  have hmx2:1001≤maxLen:=by decide
  have mixed:Tryz.prog.follows .mixedOrders=true:=by kernel_rfl
  have hsz2:cur.toList.length=cap*1:=by simpa using hsz
  have hmul:n*1≤cap*1:=Nat.mul_le_mul_right _ hnc
  have hAj:∀ j,(A.add j).block=A.block:=fun j=>by unfold Addr.add;split<;>rfl
  obtain ⟨i0,hi0,hi1⟩:=Option.map_eq_some_iff.1 insA_info
  simp only [Prod.mk.injEq] at hi1
  obtain ⟨hi1,hi2,hi3⟩:=hi1
  obtain ⟨xs,hxs⟩:∃ xs,xs=cur.toList.take (n*1):=⟨_,rfl⟩
  have hxl:xs.length=n*1:=by rw [hxs,List.length_take];omega
  rw [← hxs] at h1c ⊢
  have hkn:k*1≤n*1:=Nat.mul_le_mul_right _ (by omega)
  have hgl:g<W.heap.size:=(Array.getElem?_eq_some_iff.1 hg).1
  have hAl:A.block<W.heap.size:=by
    have:=block_lt (hv 0 _ (List.getElem?_eq_getElem (show 0<vs.length by omega)))
    exact this
  have hcell:∀ o j v,(xs.drop o)[j]? = some v→W.cell? ((⟨g,o,none⟩:Addr).add j)=some v:=fun o j v hj=>by
    rw [add_lit,Am.cell_heap hg]
    rw [hxs,List.getElem?_drop,List.getElem?_take] at hj
    split at hj
    · exact hj
    · cases hj
  have hold:(Builtin.firstCells i0.size k (.slice (some ⟨g,0,none⟩) k cap)).run Tryz.prog W.drew = .ok (xs.take (k*1)).toArray W.drew:=by
    rw [hi2]
    refine run_firstCells_some W.drew 1 k ⟨g,0,none⟩ k cap (xs.take (k*1)) (by rw [List.length_take];omega) fun j v hj => ?_
    rw [List.getElem?_take] at hj
    split at hj
    · exact hcell 0 j v (by rw [List.drop_zero];exact hj)
    · cases hj
  have hik:k+(n+1-k)=n+1:=by omega
  obtain ⟨G,hG⟩:∃ G,G=grownCap W (n+1) cap 24:=⟨_,rfl⟩
  have hGn:n+1≤G:=by rw [hG];exact grownCap_ge W _ _ _
  have hGm:G≤maxLen:=by rw [hG];exact grownCap_le_maxLen W (n+1) cap 24 (by omega)
  obtain ⟨ROW,hROW⟩:∃ ROW:Array Value,ROW=(xs.take (k*1)).toArray++Builtin.zeroCells (Value.slice none 0 0).cells (n+1-k)++Builtin.zeroCells (Value.slice none 0 0).cells (G-(n+1)):=⟨_,rfl⟩
  have hrz:∀ ty,(Builtin.append_ #[35,3] ty #[.slice (some ⟨g,0,none⟩) k cap,.int .i64 ((n:Int)+1-(k:Int))]).run Tryz.prog W =
      .ok (.slice (some ⟨W.heap.size,0,none⟩) (n+1) G) (W.drew.alloc (.cells ROW 24)):=fun ty=>by
    have h:=Lib.run_append_grow_zeros W 35 3 ty 24 i0 _ .i64 .i64 Tryz.underlying35 Tryz.underlying3 hi0 hi1 (some ⟨g,0,none⟩) k cap (xs.take (k*1)) hold (n+1-k) (by omega) (by rw [hi2];omega) (by omega) (by omega) (by rw [hi3];omega) (by rw [hi3,hik];exact growslice_fits hroom (by omega))
    rw [hik,← hG] at h
    rw [hROW,← h]
    congr 3
    rw [show (n:Int)+1-(k:Int)=((n+1-k:Nat):Int) by omega]
  have hRs:ROW.size=G*1:=by
    rw [hROW]
    simp only [Array.size_append,List.size_toArray,List.length_take,size_zeroCells,hxl]
    rw [Nat.min_eq_left hkn]
    simp [Value.cells]
    have h1:k*1+(n+1-k)*1=(n+1)*1:=by rw [← Nat.add_mul,hik]
    have h2:(n+1)*1+(G-(n+1))*1=G*1:=by rw [← Nat.add_mul];congr 1;omega
    omega
  have hRt:ROW.toList.take (k*1)=xs.take (k*1):=by
    rw [hROW]
    simp only [Array.toList_append,List.append_assoc]
    rw [List.take_append_of_le_length (by rw [List.length_take,hxl];omega),List.take_of_length_le (by rw [List.length_take];omega)]
  obtain ⟨R1,hR1⟩:∃ R1,R1=ROW.toList.take (k*1)++vs++ROW.toList.drop (k*1+vs.length):=⟨_,rfl⟩
  obtain ⟨R2,hR2⟩:∃ R2,R2=R1.take ((k+1)*1)++xs.drop (k*1)++R1.drop ((k+1)*1+(xs.drop (k*1)).length):=⟨_,rfl⟩
  have hdl:(xs.drop (k*1)).length=(n-k)*1:=by rw [List.length_drop,hxl,Nat.sub_mul]
  have hR1l:R1.length=G*1:=by
    have:(n+1)*1≤G*1:=Nat.mul_le_mul_right _ hGn
    rw [hR1]
    simp only [List.length_append,List.length_take,List.length_drop,Array.length_toList,hRs,hvl]
    omega
  have hR1t:R1.take ((k+1)*1)=xs.take (k*1)++vs:=by
    have hl:(xs.take (k*1)++vs).length=(k+1)*1:=by rw [List.length_append,List.length_take,hvl,hxl,Nat.min_eq_left hkn,Nat.add_mul,Nat.one_mul]
    rw [hR1,hRt,← hl,List.take_left]
  have hR2t:R2.take ((n+1)*1)=insL 1 k xs vs:=by
    have hl:(xs.take (k*1)++vs++xs.drop (k*1)).length=(n+1)*1:=insL_len' (K:=1) (k:=k) (n:=n) (xs:=xs) (vs:=vs) (by omega) hxl hvl
    rw [hR2,hR1t,← hl,List.take_left]
    rfl
  have hR2l:R2.length=G*1:=by
    have:(n+1)*1≤G*1:=Nat.mul_le_mul_right _ hGn
    rw [hR2]
    simp only [List.length_append,List.length_take,List.length_drop,hR1l,hxl]
    omega
  have hN0:(W.drew.alloc (.cells ROW 24)).heap[W.heap.size]? = some (.cells ROW 24 (0,0)):=heap_alloc_new W.drew _
  have hNo:∀ x:Addr,x.block<W.heap.size→(W.drew.alloc (.cells ROW 24)).cell? x=W.cell? x:=fun x hx=>by
    unfold World.cell?
    rw [Below.heap_alloc W.drew _ x.block hx]
    rfl
  have hcp1:∀ (W1:World),W1.heap=(W.drew.alloc (.cells ROW 24)).heap→∀ ty o dl dc,o=k*1→Nat.min 1 dl=1→(Builtin.copy_ #[35,35] ty #[.slice (some ⟨W.heap.size,o,none⟩) dl dc,.slice (some A) 1 vc]).run Tryz.prog W1 = .ok (goInt 1) (W1.setRow W.heap.size R1.toArray):=fun W1 h1 ty o dl dc ho hm=>by
    subst ho
    have hc:∀ x,W1.cell? x=(W.drew.alloc (.cells ROW 24)).cell? x:=fun x=>by unfold World.cell?;rw [h1]
    have:=run_copy_rowK (P:=Tryz.prog) 1 W1 35 35 ty 24 W.heap.size (k*1) dl dc A 1 vc ROW 24 vs Tryz.underlying35 insA_size (by rw [h1];exact hN0) (by rw [hm,hvl,Nat.one_mul]) (fun j v hj=>by rw [hc,hNo _ (by rw [hAj];exact hAl)];exact hv j v hj) (by have:k*1+1≤n*1:=(by rw [← Nat.succ_mul];exact Nat.mul_le_mul_right _ hk);have h9:(n+1)*1≤G*1:=Nat.mul_le_mul_right _ hGn;rw [hRs,hvl];omega) h1v
    rw [hm,← hR1] at this
    exact this
  have hcp2:∀ (W1:World),W1.heap=((W.drew.alloc (.cells ROW 24)).setRow W.heap.size R1.toArray).heap→∀ ty o o' dl dc sl sc,o=(k+1)*1→o'=k*1→Nat.min sl dl=n-k→(Builtin.copy_ #[35,35] ty #[.slice (some ⟨W.heap.size,o,none⟩) dl dc,.slice (some ⟨g,o',none⟩) sl sc]).run Tryz.prog W1 = .ok (goInt ((n-k:Nat):Int)) (W1.setRow W.heap.size R2.toArray):=fun W1 h1 ty o o' dl dc sl sc ho ho' hm=>by
    subst ho ho'
    have hc:∀ x,W1.cell? x=((W.drew.alloc (.cells ROW 24)).setRow W.heap.size R1.toArray).cell? x:=fun x=>by unfold World.cell?;rw [h1]
    have:=run_copy_rowK (P:=Tryz.prog) 1 W1 35 35 ty 24 W.heap.size ((k+1)*1) dl dc ⟨g,k*1,none⟩ sl sc R1.toArray 24 (xs.drop (k*1)) Tryz.underlying35 insA_size (by rw [h1];exact setRow_heap _ _ _ _ _ _ hN0) (by rw [hm];exact hdl) (fun j v hj=>by
      have hb:((⟨g,k*1,none⟩:Addr).add j).block=g:=by rw [add_lit]
      rw [hc,cell_setRow_other _ _ _ _ (by rw [hb];omega),hNo _ (by rw [hb];exact hgl)]
      exact hcell _ j v hj) (by have h9:(n+1)*1≤G*1:=Nat.mul_le_mul_right _ hGn;rw [hdl];simp only [List.size_toArray,hR1l];have:(k+1)*1+(n-k)*1=(n+1)*1:=(by rw [← Nat.add_mul];congr 1;omega);omega) (fun v h=>h1c v (List.mem_of_mem_drop h))
    rw [hm] at this
    rw [List.toList_toArray,← hR2] at this
    exact this
  have hki:IntKind.i64.wrap ((k:Int)+1)=(k:Int)+1:=by rw [IntKind.wrap_i64];omega
  have hkn:((k:Int)+1).toNat=k+1:=by omega
  have hb0:(0:Int)≤(k:Int)+1:=by omega
  have hb1:(k:Int)+1≤(n:Int)+1:=by omega
  have hb2:¬ (G=k+1):=by omega
  have hb3:(k:Int)≤(n:Int)+1:=by omega
  have hb4:¬ (G=k):=by omega
  have hb5:¬ (cap=k):=by omega
  have hb6:k≤n:=by omega
  clear hcell hold h1c h1v hv hAl hROW hG hR1 hR2 hi0 hi1 hi2 hi3 hN0 hNo hRt hR1t
  go_enter Tryz.func174,Tryz.ntmps174
  go_wp2_with (with_reducible show wpList _ _ _ _ _ _
               first | refine wpl_appK _ rfl _ _ 35 3 rfl _ _ rfl rfl (hrz _) ?_ | refine wpl_copyK _ rfl _ _ 35 35 rfl _ _ rfl rfl (hcp1 _ rfl _ _ _ _ (by first | rfl | omega) (by simp only [Nat.min_def];split<;>omega)) ?_)
  go_region_law_o (refine step_copyK rfl _ _ 35 35 rfl _ _ (by simp [Act.eval,Act.put]) (by simp [Act.eval,Act.put]) (hcp2 ((W.alloc (.cells ROW 24)).drew.setRow W.heap.size R1.toArray).drew rfl _ ((k+1)*1) (k*1) (n+1-(k+1)) (G-(k+1)) (n-k) (cap-k) rfl rfl (by simp only [Nat.min_def];split<;>omega)) ?_)
  go_wp2
  go_ret
  refine ⟨_,rfl,⟨by rw [insL_len' (by omega) hxl hvl],.inr ⟨W.heap.size,G,R2.toArray,rfl,Nat.zero_le _,setRow_heap _ _ R1.toArray _ _ (0,0) (setRow_heap _ _ ROW _ _ (0,0) (heap_alloc_new W _)),hGn,hGm,by simpa using hR2l,by simpa using hR2t⟩⟩,⟨rfl,rfl,rfl,by simp,fun j hj _ => ?_⟩,rfl⟩
  have hne:j≠W.heap.size:=by omega
  exact (setRow_other _ _ _ _ hne).trans ((setRow_other _ _ _ _ hne).trans (Below.heap_alloc W _ j hj))
theorem insB_info:(Tryz.prog.info? 40).map (fun i=>(i.zero,i.size,i.bytes))=some (some (Value.agg #[.int .i64 0,.int .i64 0]),2,16):=by kernel_rfl
theorem insB_size:(Tryz.prog.info? 40).map (·.size)=some 2:=by kernel_rfl
theorem insB_ov (w:World) (A B:Addr) (la ca lb cb:Nat) (hne:A.block≠B.block) {ka kb:Array Value} {ta tb:TypeId} {fa:Nat×Nat} (hsa:w.heap[A.block]? = some (.cells ka ta fa)) (hsb:w.heap[B.block]? = some (.cells kb tb (0,0))) (hka:ka.size≠0) (hkb:kb.size≠0):(callFunc 192 #[.slice (some A) la ca,.slice (some B) lb cb]).run Tryz.prog w = .ok (.value (.bool false)) w:=by
  rw [run_callFunc_extern Tryz.func192 (by kernel_rfl) (by kernel_rfl) (by kernel_rfl) (e:=Extern.SlicesOverlaps.overlaps #[36,36] #[4]) (by kernel_rfl),
    run_apart w 36 4 40 Tryz.underlying36 2 (fun w=>by kernel_rfl) A B la ca lb cb hne hsa hsb hka hkb]
  rfl
set_option maxHeartbeats 4000000 in
set_option maxRecDepth 100000 in
theorem insB_shift (W:World) (g n cap k:Nat) (cur:Array Value) (A:Addr) (vc:Nat) (vs:List Value) (hk:k<n) (hroom:n+1≤cap) (hcap:cap≤maxLen) (hg:W.heap[g]? = some (.cells cur 40 (0,0))) (hsz:cur.size=cap*2) (hA:A.block≠g) (hvl:vs.length=2)
    (hv:∀ j v,vs[j]? = some v→W.cell? (A.add j)=some v) (h1c:∀ v∈cur.toList.take (n*2),v.oneCell'=true) (h1v:∀ v∈vs,v.oneCell'=true) :
    Calls Tryz.prog 175 #[.slice (some ⟨g,0,none⟩) n cap,.int .i64 k,.slice (some A) 1 vc] W fun e w'=>e = .returned (.slice (some ⟨g,0,none⟩) (n+1) cap) ∧
      ∃ cur':Array Value,w'.heap[g]? = some (.cells cur' 40 (0,0))∧cur'.size=cap*2∧cur'.toList.take ((n+1)*2)=insL 2 k (cur.toList.take (n*2)) vs∧W.grownBy w' (some g):=by
  have hmx:maxLen≤9223372036854775807:=by decide
  have hsz2:cur.toList.length=cap*2:=by simpa using hsz
  have hmul:(n+1)*2≤cap*2:=Nat.mul_le_mul_right _ hroom
  have mixed:Tryz.prog.follows .mixedOrders=true:=by kernel_rfl
  have hAj:∀ j,(A.add j).block=A.block:=fun j=>by unfold Addr.add;split<;>rfl
  obtain ⟨cs,hcs⟩:∃ cs,cs=(cur.toList.take (n*2)).drop (k*2):=⟨_,rfl⟩
  obtain ⟨R1,hR1⟩:∃ R1,R1=cur.toList.take ((k+1)*2)++cs++cur.toList.drop ((k+1)*2+cs.length):=⟨_,rfl⟩
  obtain ⟨R2,hR2⟩:∃ R2,R2=R1.take (k*2)++vs++R1.drop (k*2+vs.length):=⟨_,rfl⟩
  obtain ⟨hcl,hl1,hl2,hlt⟩:=ins_row (K:=2) (k:=k) (n:=n) (L:=cur.toList) (vs:=vs) (by omega) (by rw [hsz2];exact hmul) hvl cs R1 R2 hcs hR1 hR2
  have hcell:∀ j v,cs[j]? = some v→W.cell? ((⟨g,k*2,none⟩:Addr).add j)=some v:=fun j v hj=>by
    rw [add_lit,Am.cell_heap hg]
    rw [hcs,List.getElem?_drop,List.getElem?_take] at hj
    split at hj
    · exact hj
    · cases hj
  have hone:∀ v∈cs,v.oneCell'=true:=fun v h=>h1c v (List.mem_of_mem_drop (by rw [hcs] at h;exact h))
  have hkK:k*2+cs.length=n*2:=by rw [hcl,← Nat.add_mul];congr 1;omega
  have hA0:∃ arr t fz,W.heap[A.block]? = some (.cells arr t fz)∧arr.size≠0:=by
    have:=hv 0 _ (List.getElem?_eq_getElem (show 0<vs.length by omega))
    unfold World.cell? at this
    split at this
    · rename_i c t fz hh
      have e:(A.add 0).block=A.block:=rfl
      rw [e] at hh
      split at this
      · cases this
      · exact ⟨_,_,_,hh,fun h0=>by rw [Array.getElem?_eq_none (by omega)] at this;cases this⟩
    · cases this
  obtain ⟨arr,ta,fz,hA1,hA2⟩:=hA0
  have hov:∀ o lb cb,(callFunc 192 #[.slice (some A) 1 vc,.slice (some ⟨g,o,none⟩) lb cb]).run Tryz.prog W = .ok (.value (.bool false)) W:=fun o lb cb=>insB_ov W A ⟨g,o,none⟩ 1 vc lb cb hA hA1 hg hA2 (by rw [hsz];omega)
  have hcp1:∀ (W1:World),(∀ x,W1.cell? x=W.cell? x)→W1.heap[g]? = W.heap[g]? → ∀ ty o o' dl dc sl sc,o=(k+1)*2→o'=k*2→Nat.min sl dl=n-k→(Builtin.copy_ #[36,36] ty #[.slice (some ⟨g,o,none⟩) dl dc,.slice (some ⟨g,o',none⟩) sl sc]).run Tryz.prog W1 = .ok (goInt ((n-k:Nat):Int)) (W1.setRow g R1.toArray):=fun W1 h1 h2 ty o o' dl dc sl sc ho ho' hm=>by
    subst ho ho'
    have:=run_copy_rowK (P:=Tryz.prog) 2 W1 36 36 ty 40 g ((k+1)*2) dl dc ⟨g,k*2,none⟩ sl sc cur 40 cs Tryz.underlying36 insB_size (h2.trans hg) (by rw [hm];exact hcl) (fun j v hj=>(h1 _).trans (hcell j v hj)) (by rw [hsz,Nat.add_mul];omega) hone
    rw [hm,← hR1] at this
    exact this
  have hcp2:∀ (W1:World),(∀ x:Addr,x.block≠g→W1.cell? x=W.cell? x)→W1.heap[g]? = some (.cells R1.toArray 40 (0,0))→∀ ty o dl dc,o=k*2→Nat.min 1 dl=1→(Builtin.copy_ #[36,36] ty #[.slice (some ⟨g,o,none⟩) dl dc,.slice (some A) 1 vc]).run Tryz.prog W1 = .ok (goInt 1) (W1.setRow g R2.toArray):=fun W1 h1 h2 ty o dl dc ho hm=>by
    subst ho
    have:=run_copy_rowK (P:=Tryz.prog) 2 W1 36 36 ty 40 g (k*2) dl dc A 1 vc R1.toArray 40 vs Tryz.underlying36 insB_size h2 (by rw [hm,hvl,Nat.one_mul]) (fun j v hj=>(h1 (A.add j) (by rw [hAj];exact hA)).trans (hv j v hj)) (by have:k*2+2≤n*2:=(by rw [← Nat.succ_mul];exact Nat.mul_le_mul_right _ hk);simp only [List.size_toArray,hl1,hsz2,hvl];omega) h1v
    rw [hm] at this
    rw [List.toList_toArray,← hR2] at this
    exact this
  clear hcell hone h1c h1v hv hA hA1 hcs hR1 hR2
  go_enter Tryz.func175,Tryz.ntmps175
  go_wp2_with (simp only [hov])
  have hki:IntKind.i64.wrap ((k:Int)+1)=(k:Int)+1:=by rw [IntKind.wrap_i64];omega
  have hkn:((k:Int)+1).toNat=k+1:=by omega
  have hb0:(0:Int)≤(k:Int)+1:=by omega
  have hb1:(k:Int)+1≤(n:Int)+1:=by omega
  have hb2:¬ (cap=k+1):=by omega
  have hb3:(k:Int)≤(n:Int)+1:=by omega
  have hb4:¬ (cap=k):=by omega
  go_region_law_o (refine step_copyK rfl _ _ 36 36 rfl _ _ (by simp [Act.eval,Act.put]) (by simp [Act.eval,Act.put]) (hcp1 W.drew (fun _=>rfl) rfl _ ((k+1)*2) (k*2) (n+1-(k+1)) (cap-(k+1)) (n+1-k) (cap-k) rfl rfl (by simp only [Nat.min_def];split<;>omega)) ?_)
  go_wp2_with (with_reducible show wpList _ _ _ _ _ _
               refine wpl_copyK _ rfl _ _ 36 36 rfl _ _ rfl rfl (hcp2 (W.drew.setRow g R1.toArray) (fun x hx=>cell_setRow_other W.drew g _ x hx) (setRow_heap W.drew g cur R1.toArray 40 (0,0) hg) _ _ _ _ (by first | rfl | omega) (by simp only [Nat.min_def];split<;>omega)) ?_)
  go_ret
  refine ⟨rfl,R2.toArray,setRow_heap _ g R1.toArray R2.toArray 40 (0,0) (setRow_heap W.drew g cur R1.toArray 40 (0,0) hg),?_,hlt,?_⟩
  · simpa [hl2] using hsz
  · exact ⟨rfl,rfl,rfl,by simp,fun j _ hj=>by
      have hne:j≠g:=fun e=>hj (by rw [e])
      exact (setRow_other _ _ _ _ hne).trans (setRow_other _ _ _ _ hne)⟩
set_option maxHeartbeats 4000000 in
set_option maxRecDepth 100000 in
theorem insB_end (W:World) (v:Value) (n:Nat) (xs:List Value) (hn:n≤1000) (hown:W.ownsRow 0 40 2 v n xs) (A:Addr) (vc:Nat) (vs:List Value) (hvl:vs.length=2)
    (hv:∀ j v,vs[j]? = some v→W.cell? (A.add j)=some v) (h1v:∀ v∈vs,v.oneCell'=true) :
    Calls Tryz.prog 175 #[v,.int .i64 n,.slice (some A) 1 vc] W fun e w'=>∃ u,e = .returned u∧w'.ownsRow 0 40 2 u (n+1) (xs++vs)∧W.grownBy w' v.ownBlock∧(u.ownBlock=v.ownBlock∨u.ownBlock=some W.heap.size):=by
  have hmx:maxLen≤9223372036854775807:=by decide
  have mixed:Tryz.prog.follows .mixedOrders=true:=by kernel_rfl
  obtain ⟨i0,hi0,hi1⟩:=Option.map_eq_some_iff.1 insB_info
  simp only [Prod.mk.injEq] at hi1
  obtain ⟨hi1,hi2,hi3⟩:=hi1
  have hmx2:1001≤maxLen:=by decide
  obtain ⟨u,w',hr,h1,h2,-,h4⟩:=run_append_own_at W 0 36 36 40 i0 (Value.agg #[.int .i64 0,.int .i64 0]) 2 16 Tryz.underlying36 hi0 hi1 hi2 hi3 rfl (by decide) v n xs hown A 1 vc vs (by rw [hvl,Nat.one_mul]) hv h1v (by omega) (by omega) (Nat.zero_le _)
  clear hi1 hi2 hi3 hi0 hv h1v hvl
  rcases hown.2 with ⟨rfl,rfl⟩ | ⟨g,cap,cur,rfl,-,hg,hnc,hcm,-,-⟩
  · clear hown
    go_enter Tryz.func175,Tryz.ntmps175
    go_wp2_with (with_reducible show wpList _ _ _ _ _ _
                 refine wpl_appK _ rfl _ _ 36 36 rfl _ _ rfl rfl hr ?_)
    go_ret
    exact ⟨u,rfl,h1,h2,h4⟩
  · clear hown
    go_enter Tryz.func175,Tryz.ntmps175
    go_wp2_with (with_reducible show wpList _ _ _ _ _ _
                 refine wpl_appK _ rfl _ _ 36 36 rfl _ _ rfl rfl hr ?_)
    all_goals go_ret
    all_goals exact ⟨u,rfl,h1,h2,h4⟩
set_option maxHeartbeats 4000000 in
set_option maxRecDepth 100000 in
theorem insB_grow (W:World) (g n cap k:Nat) (cur:Array Value) (A:Addr) (vc:Nat) (vs:List Value) (hk:k<n) (hn:n≤1000) (hnc:n≤cap) (hroom:cap<n+1) (hg:W.heap[g]? = some (.cells cur 40 (0,0))) (hsz:cur.size=cap*2) (hvl:vs.length=2)
    (hv:∀ j v,vs[j]? = some v→W.cell? (A.add j)=some v) (h1c:∀ v∈cur.toList.take (n*2),v.oneCell'=true) (h1v:∀ v∈vs,v.oneCell'=true) :
    Calls Tryz.prog 175 #[.slice (some ⟨g,0,none⟩) n cap,.int .i64 k,.slice (some A) 1 vc] W fun e w'=>∃ u,e = .returned u∧w'.ownsRow 0 40 2 u (n+1) (insL 2 k (cur.toList.take (n*2)) vs)∧W.grownBy w' (some g)∧u.ownBlock=some W.heap.size:=by
  have hmx:maxLen≤9223372036854775807:=by decide
  have hmx2:1001≤maxLen:=by decide
  have mixed:Tryz.prog.follows .mixedOrders=true:=by kernel_rfl
  have hsz2:cur.toList.length=cap*2:=by simpa using hsz
  have hmul:n*2≤cap*2:=Nat.mul_le_mul_right _ hnc
  have hAj:∀ j,(A.add j).block=A.block:=fun j=>by unfold Addr.add;split<;>rfl
  obtain ⟨i0,hi0,hi1⟩:=Option.map_eq_some_iff.1 insB_info
  simp only [Prod.mk.injEq] at hi1
  obtain ⟨hi1,hi2,hi3⟩:=hi1
  obtain ⟨xs,hxs⟩:∃ xs,xs=cur.toList.take (n*2):=⟨_,rfl⟩
  have hxl:xs.length=n*2:=by rw [hxs,List.length_take];omega
  rw [← hxs] at h1c ⊢
  have hkn:k*2≤n*2:=Nat.mul_le_mul_right _ (by omega)
  have hgl:g<W.heap.size:=(Array.getElem?_eq_some_iff.1 hg).1
  have hAl:A.block<W.heap.size:=by
    have:=block_lt (hv 0 _ (List.getElem?_eq_getElem (show 0<vs.length by omega)))
    exact this
  have hcell:∀ o j v,(xs.drop o)[j]? = some v→W.cell? ((⟨g,o,none⟩:Addr).add j)=some v:=fun o j v hj=>by
    rw [add_lit,Am.cell_heap hg]
    rw [hxs,List.getElem?_drop,List.getElem?_take] at hj
    split at hj
    · exact hj
    · cases hj
  have hold:(Builtin.firstCells i0.size k (.slice (some ⟨g,0,none⟩) k cap)).run Tryz.prog W.drew = .ok (xs.take (k*2)).toArray W.drew:=by
    rw [hi2]
    refine run_firstCells_some W.drew 2 k ⟨g,0,none⟩ k cap (xs.take (k*2)) (by rw [List.length_take];omega) fun j v hj => ?_
    rw [List.getElem?_take] at hj
    split at hj
    · exact hcell 0 j v (by rw [List.drop_zero];exact hj)
    · cases hj
  have hik:k+(n+1-k)=n+1:=by omega
  obtain ⟨G,hG⟩:∃ G,G=grownCap W (n+1) cap 40:=⟨_,rfl⟩
  have hGn:n+1≤G:=by rw [hG];exact grownCap_ge W _ _ _
  have hGm:G≤maxLen:=by rw [hG];exact grownCap_le_maxLen W (n+1) cap 40 (by omega)
  obtain ⟨ROW,hROW⟩:∃ ROW:Array Value,ROW=(xs.take (k*2)).toArray++Builtin.zeroCells (Value.agg #[.int .i64 0,.int .i64 0]).cells (n+1-k)++Builtin.zeroCells (Value.agg #[.int .i64 0,.int .i64 0]).cells (G-(n+1)):=⟨_,rfl⟩
  have hrz:∀ ty,(Builtin.append_ #[36,3] ty #[.slice (some ⟨g,0,none⟩) k cap,.int .i64 ((n:Int)+1-(k:Int))]).run Tryz.prog W =
      .ok (.slice (some ⟨W.heap.size,0,none⟩) (n+1) G) (W.drew.alloc (.cells ROW 40)):=fun ty=>by
    have h:=Lib.run_append_grow_zeros W 36 3 ty 40 i0 _ .i64 .i64 Tryz.underlying36 Tryz.underlying3 hi0 hi1 (some ⟨g,0,none⟩) k cap (xs.take (k*2)) hold (n+1-k) (by omega) (by rw [hi2];omega) (by omega) (by omega) (by rw [hi3];omega) (by rw [hi3,hik];exact growslice_fits hroom (by omega))
    rw [hik,← hG] at h
    rw [hROW,← h]
    congr 3
    rw [show (n:Int)+1-(k:Int)=((n+1-k:Nat):Int) by omega]
  have hRs:ROW.size=G*2:=by
    rw [hROW]
    simp only [Array.size_append,List.size_toArray,List.length_take,size_zeroCells,hxl]
    rw [Nat.min_eq_left hkn]
    simp [Value.cells]
    have h1:k*2+(n+1-k)*2=(n+1)*2:=by rw [← Nat.add_mul,hik]
    have h2:(n+1)*2+(G-(n+1))*2=G*2:=by rw [← Nat.add_mul];congr 1;omega
    omega
  have hRt:ROW.toList.take (k*2)=xs.take (k*2):=by
    rw [hROW]
    simp only [Array.toList_append,List.append_assoc]
    rw [List.take_append_of_le_length (by rw [List.length_take,hxl];omega),List.take_of_length_le (by rw [List.length_take];omega)]
  obtain ⟨R1,hR1⟩:∃ R1,R1=ROW.toList.take (k*2)++vs++ROW.toList.drop (k*2+vs.length):=⟨_,rfl⟩
  obtain ⟨R2,hR2⟩:∃ R2,R2=R1.take ((k+1)*2)++xs.drop (k*2)++R1.drop ((k+1)*2+(xs.drop (k*2)).length):=⟨_,rfl⟩
  have hdl:(xs.drop (k*2)).length=(n-k)*2:=by rw [List.length_drop,hxl,Nat.sub_mul]
  have hR1l:R1.length=G*2:=by
    have:(n+1)*2≤G*2:=Nat.mul_le_mul_right _ hGn
    rw [hR1]
    simp only [List.length_append,List.length_take,List.length_drop,Array.length_toList,hRs,hvl]
    omega
  have hR1t:R1.take ((k+1)*2)=xs.take (k*2)++vs:=by
    have hl:(xs.take (k*2)++vs).length=(k+1)*2:=by rw [List.length_append,List.length_take,hvl,hxl,Nat.min_eq_left hkn,Nat.add_mul,Nat.one_mul]
    rw [hR1,hRt,← hl,List.take_left]
  have hR2t:R2.take ((n+1)*2)=insL 2 k xs vs:=by
    have hl:(xs.take (k*2)++vs++xs.drop (k*2)).length=(n+1)*2:=insL_len' (K:=2) (k:=k) (n:=n) (xs:=xs) (vs:=vs) (by omega) hxl hvl
    rw [hR2,hR1t,← hl,List.take_left]
    rfl
  have hR2l:R2.length=G*2:=by
    have:(n+1)*2≤G*2:=Nat.mul_le_mul_right _ hGn
    rw [hR2]
    simp only [List.length_append,List.length_take,List.length_drop,hR1l,hxl]
    omega
  have hN0:(W.drew.alloc (.cells ROW 40)).heap[W.heap.size]? = some (.cells ROW 40 (0,0)):=heap_alloc_new W.drew _
  have hNo:∀ x:Addr,x.block<W.heap.size→(W.drew.alloc (.cells ROW 40)).cell? x=W.cell? x:=fun x hx=>by
    unfold World.cell?
    rw [Below.heap_alloc W.drew _ x.block hx]
    rfl
  have hcp1:∀ (W1:World),W1.heap=(W.drew.alloc (.cells ROW 40)).heap→∀ ty o dl dc,o=k*2→Nat.min 1 dl=1→(Builtin.copy_ #[36,36] ty #[.slice (some ⟨W.heap.size,o,none⟩) dl dc,.slice (some A) 1 vc]).run Tryz.prog W1 = .ok (goInt 1) (W1.setRow W.heap.size R1.toArray):=fun W1 h1 ty o dl dc ho hm=>by
    subst ho
    have hc:∀ x,W1.cell? x=(W.drew.alloc (.cells ROW 40)).cell? x:=fun x=>by unfold World.cell?;rw [h1]
    have:=run_copy_rowK (P:=Tryz.prog) 2 W1 36 36 ty 40 W.heap.size (k*2) dl dc A 1 vc ROW 40 vs Tryz.underlying36 insB_size (by rw [h1];exact hN0) (by rw [hm,hvl,Nat.one_mul]) (fun j v hj=>by rw [hc,hNo _ (by rw [hAj];exact hAl)];exact hv j v hj) (by have:k*2+2≤n*2:=(by rw [← Nat.succ_mul];exact Nat.mul_le_mul_right _ hk);have h9:(n+1)*2≤G*2:=Nat.mul_le_mul_right _ hGn;rw [hRs,hvl];omega) h1v
    rw [hm,← hR1] at this
    exact this
  have hcp2:∀ (W1:World),W1.heap=((W.drew.alloc (.cells ROW 40)).setRow W.heap.size R1.toArray).heap→∀ ty o o' dl dc sl sc,o=(k+1)*2→o'=k*2→Nat.min sl dl=n-k→(Builtin.copy_ #[36,36] ty #[.slice (some ⟨W.heap.size,o,none⟩) dl dc,.slice (some ⟨g,o',none⟩) sl sc]).run Tryz.prog W1 = .ok (goInt ((n-k:Nat):Int)) (W1.setRow W.heap.size R2.toArray):=fun W1 h1 ty o o' dl dc sl sc ho ho' hm=>by
    subst ho ho'
    have hc:∀ x,W1.cell? x=((W.drew.alloc (.cells ROW 40)).setRow W.heap.size R1.toArray).cell? x:=fun x=>by unfold World.cell?;rw [h1]
    have:=run_copy_rowK (P:=Tryz.prog) 2 W1 36 36 ty 40 W.heap.size ((k+1)*2) dl dc ⟨g,k*2,none⟩ sl sc R1.toArray 40 (xs.drop (k*2)) Tryz.underlying36 insB_size (by rw [h1];exact setRow_heap _ _ _ _ _ _ hN0) (by rw [hm];exact hdl) (fun j v hj=>by
      have hb:((⟨g,k*2,none⟩:Addr).add j).block=g:=by rw [add_lit]
      rw [hc,cell_setRow_other _ _ _ _ (by rw [hb];omega),hNo _ (by rw [hb];exact hgl)]
      exact hcell _ j v hj) (by have h9:(n+1)*2≤G*2:=Nat.mul_le_mul_right _ hGn;rw [hdl];simp only [List.size_toArray,hR1l];have:(k+1)*2+(n-k)*2=(n+1)*2:=(by rw [← Nat.add_mul];congr 1;omega);omega) (fun v h=>h1c v (List.mem_of_mem_drop h))
    rw [hm] at this
    rw [List.toList_toArray,← hR2] at this
    exact this
  have hki:IntKind.i64.wrap ((k:Int)+1)=(k:Int)+1:=by rw [IntKind.wrap_i64];omega
  have hkn:((k:Int)+1).toNat=k+1:=by omega
  have hb0:(0:Int)≤(k:Int)+1:=by omega
  have hb1:(k:Int)+1≤(n:Int)+1:=by omega
  have hb2:¬ (G=k+1):=by omega
  have hb3:(k:Int)≤(n:Int)+1:=by omega
  have hb4:¬ (G=k):=by omega
  have hb5:¬ (cap=k):=by omega
  have hb6:k≤n:=by omega
  clear hcell hold h1c h1v hv hAl hROW hG hR1 hR2 hi0 hi1 hi2 hi3 hN0 hNo hRt hR1t
  go_enter Tryz.func175,Tryz.ntmps175
  go_wp2_with (with_reducible show wpList _ _ _ _ _ _
               first | refine wpl_appK _ rfl _ _ 36 3 rfl _ _ rfl rfl (hrz _) ?_ | refine wpl_copyK _ rfl _ _ 36 36 rfl _ _ rfl rfl (hcp1 _ rfl _ _ _ _ (by first | rfl | omega) (by simp only [Nat.min_def];split<;>omega)) ?_)
  go_region_law_o (refine step_copyK rfl _ _ 36 36 rfl _ _ (by simp [Act.eval,Act.put]) (by simp [Act.eval,Act.put]) (hcp2 ((W.alloc (.cells ROW 40)).drew.setRow W.heap.size R1.toArray).drew rfl _ ((k+1)*2) (k*2) (n+1-(k+1)) (G-(k+1)) (n-k) (cap-k) rfl rfl (by simp only [Nat.min_def];split<;>omega)) ?_)
  go_wp2
  go_ret
  refine ⟨_,rfl,⟨by rw [insL_len' (by omega) hxl hvl],.inr ⟨W.heap.size,G,R2.toArray,rfl,Nat.zero_le _,setRow_heap _ _ R1.toArray _ _ (0,0) (setRow_heap _ _ ROW _ _ (0,0) (heap_alloc_new W _)),hGn,hGm,by simpa using hR2l,by simpa using hR2t⟩⟩,⟨rfl,rfl,rfl,by simp,fun j hj _ => ?_⟩,rfl⟩
  have hne:j≠W.heap.size:=by omega
  exact (setRow_other _ _ _ _ hne).trans ((setRow_other _ _ _ _ hne).trans (Below.heap_alloc W _ j hj))
end Go.Proofs.YtjblpcgkffhgfaaGreat
