/- The law on cycles: what it calls, and its facts. Conditions: none. -/
import Derived.Test.YtlhdeofkhajigaaGreatGRX
import Derived.Test.YtlhdeofkhajigaaGreatCC
import Derived.Test.YtlhdeofkhajigaaGreatGLO
import Derived.Test.YtlhdeofkhajigaaGreatGRT
import Derived.Test.YtlhdeofkhajigaaGreatGDY
import Derived.Test.YtlhdeofkhajigaaGreatRsm
set_option linter.all false
set_option linter.unusedSimpArgs false
set_option linter.unusedVariables false
namespace Go.Proofs.YtlhdeofkhajigaaGreat
open Go Go.RowKit Am

theorem Does.weak {P:Program} {f:Nat} {args:List AV} {r r':AV} (h:Does P f args (.imm r)) (k:∀ M u,r.rel noφ M u→r'.rel noφ M u):Does P f args (.imm r') :=
  ⟨h.1,fun M w us hm ha=>(h.2 M w us hm ha).mono fun _ _ ⟨u,M',h1,h2,h3,h4,h5⟩=>⟨u,M',h1,h2,h3,k _ _ h4,h5⟩⟩
theorem tup_weak {xs ys:List TV} (hl:ys.length=xs.length) (h:∀ (j:Nat) (x y:TV),xs[j]? = some x→ys[j]? = some y→∀ M u,x.rel noφ M u→y.rel noφ M u) (M:Am.Mem) (u:Value):(AV.tup xs).rel noφ M u→(AV.tup ys).rel noφ M u:=fun ⟨us,e,h1,h2⟩ =>
  ⟨us,e,by omega,fun j hj hj'=>h j _ _ (List.getElem?_eq_getElem (by omega)) (List.getElem?_eq_getElem hj) M _ (h2 j (by omega) hj')⟩
theorem nil_intsT {M:Am.Mem} {u:Value} (h:(TV.one (.b (.val (.slice none 0 0)))).rel noφ M u):(TV.one (.b (.sl (.ints [])))).rel noφ M u:=by
  obtain rfl:u = .slice none 0 0:=h
  exact nil_rel (c := .ints []) rfl trivial
/-- what is told of a cycle, and of a potential -/
def cyT (m s nx:List (List Int)) (x:Int) (a:Int×Int):Int×List Int×Bool:=match cyc m s nx x a with
  | none=>(0,[],false)
  | some (p,w)=>((p:Int),w,true)
noncomputable def ptT (m s nx:List (List Int)) (x:Int) (a:Int×Int):List Int×Bool:=match ptO m s nx x a with
  | none=>([],false)
  | some w=>(w,true)
abbrev cyA (t:Int×List Int×Bool):AV := .tup [.one (.b (.val (.int .i64 t.1))),.one (.b (.sl (.ints t.2.1))),.one (.b (.val (.bool t.2.2)))]
abbrev ptA (t:List Int×Bool):AV := .tup [.one (.b (.sl (.ints t.1))),.one (.b (.val (.bool t.2)))]
section
variable (m s nx:List (List Int)) (x:Int) (a:Int×Int)
theorem fcI:Does Tryz.prog 32 [prA m s,.sl (.ii nx),.int x,frA a] (.imm (cyA (cyT m s nx x a))):=by
  have h:=imm_of (FindCycle_h m s nx x a)
  unfold cyT
  cases hc:cyc m s nx x a with
  | none =>
    rw [hc] at h
    refine Does.weak h (tup_weak rfl fun j x y hx hy M u hr => ?_)
    match j with
    | 0=>cases hx;cases hy;exact hr
    | 1=>cases hx;cases hy;exact nil_intsT hr
    | 2=>cases hx;cases hy;exact hr
    | j+3=>cases hx
  | some o=>rw [hc] at h;exact h
theorem fcS:Does Tryz.prog 33 [prA m s,.sl (.ii nx),.int x,frA a] (.imm (cyA (cyT m s nx x a))):=by
  have h:=spec_FindCycle_v m s nx x a
  unfold cyT
  cases hc:cyc m s nx x a with
  | none=>rw [hc] at h;exact h
  | some o=>rw [hc] at h;exact h
theorem fpI:Does Tryz.prog 22 [prA m s,.sl (.ii nx),.int x,frA a] (.imm (ptA (ptT m s nx x a))):=by
  have h:=imm_of (impl_FindPotential_v m s nx x a)
  unfold ptT
  cases hc:ptO m s nx x a with
  | none =>
    rw [hc] at h
    refine Does.weak h (tup_weak rfl fun j x y hx hy M u hr => ?_)
    match j with
    | 0=>cases hx;cases hy;exact nil_intsT hr
    | 1=>cases hx;cases hy;exact hr
    | j+2=>cases hx
  | some o=>rw [hc] at h;exact h
theorem fpS:Does Tryz.prog 23 [prA m s,.sl (.ii nx),.int x,frA a] (.imm (ptA (ptT m s nx x a))):=by
  have h:=spec_FindPotential_v m s nx x a
  unfold ptT
  cases hc:ptO m s nx x a with
  | none=>rw [hc] at h;exact h
  | some o=>rw [hc] at h;exact h
end
theorem firstS_ok {b n:Nat} {p:List Int→Bool} {w:List Int} (hb:1≤b) (h:firstS b n p=some w):p w=true∧reqsB b w∧w.length=n:=by
  unfold firstS at h
  cases e:(List.range (b ^ n)).find? fun k=>p (sq b n k) with
  | none=>rw [e] at h;cases h
  | some k =>
    rw [e] at h
    have h:sq b n k=w:=by simpa using h
    have h1:=List.find?_some e
    subst h
    refine ⟨h1,fun r hr => ?_,sq_len b n k⟩
    unfold sq at hr
    obtain ⟨i,_,rfl⟩:=List.mem_map.1 hr
    have:=digS_le hb k (n-1-i)
    omega
/-- a cycle that is found leaves no potential -/
theorem cyc_none {m s nx:List (List Int)} {x:Int} {a:Int×Int} {o:Nat×List Int} (h:cyc m s nx x a=some o):ptO m s nx x a=none:=by
  obtain ⟨p,w⟩:=o
  unfold cyc at h
  cases hq:(prQ m s nx x).2
  · cases ha:ratioB a
    · rw [hq,ha] at h;cases h
    rw [hq,ha] at h
    have h:findC a (egs (prQ m s nx x).1.rows) s.length (prQ m s nx x).1.list.length=some (p,w):=h
    have hF:=prQ_full hq
    obtain ⟨i,hi,h1⟩:=findSome_mem h
    obtain ⟨p',hp',h2⟩:=findSome_mem h1
    cases hf:firstS s.length (i+1) (goodE a (egs (prQ m s nx x).1.rows) s.length p') with
    | none=>rw [hf] at h2;cases h2
    | some w' =>
      rw [hf] at h2
      cases h2
      obtain ⟨k1,k2,_⟩:=firstS_ok (prob_len hF.prob).2.2.1 hf
      unfold goodE at k1
      rw [Bool.and_eq_true] at k1
      have k3:=of_decide_eq_true k1.1
      have k4:=of_decide_eq_true k1.2
      obtain ⟨k5,_⟩:=walk_wk hF w p hp' k2
      rw [gain_walk] at k4
      have k6:afterE (egs (prQ m s nx x).1.rows) s.length p w=p:=by omega
      rw [k6] at k5
      exact pt_none k5 k4
  · rw [hq] at h;cases h
theorem cyc_pt (m s nx:List (List Int)) (x:Int) (a:Int×Int):((cyT m s nx x a).2.2 && (ptT m s nx x a).2)=false:=by
  unfold cyT ptT
  cases hc:cyc m s nx x a with
  | none=>rfl
  | some o=>rw [cyc_none hc];rfl
section
variable {m s nx:List (List Int)} {x:Int} {a:Int×Int} {us vs:List Int}
theorem cgB_ok (h:cgB m s nx x a us vs=true):cgA m s nx x a us vs=true∧afterE (egs (prQ m s nx x).1.rows) s.length (afterE (egs (prQ m s nx x).1.rows) s.length 0 us) vs=afterE (egs (prQ m s nx x).1.rows) s.length 0 us:=by
  unfold cgB at h
  rw [Bool.and_eq_true] at h
  have:=of_decide_eq_true h.2
  exact ⟨h.1,by omega⟩
/-- a gain of more than 0 leaves no potential -/
theorem cg_none (h:cgB m s nx x a us vs=true) (h0:0<cgV m s nx x a us vs):ptO m s nx x a=none:=by
  unfold cgV at h0
  rw [h] at h0
  obtain ⟨h1,h2⟩:=cgB_ok h
  obtain ⟨k1,k2,k3,k4,k5,k6,k7⟩:=cgA_ok h1
  have hF:=prQ_full k1
  have hlt:=(walk_wk hF us 0 hF.pos k3).2
  obtain ⟨k8,_⟩:=walk_wk hF vs _ hlt k5
  rw [h2] at k8
  simp only [cond_true] at h0
  rw [gain_walk] at h0
  exact pt_none k8 h0
/-- a cycle that is gone through again and again -/
def whl (us vs:List Int):Nat→List Int
  | 0=>us
  | t+1=>whl us vs t++vs
theorem after_app {E:List (List Int)} {K p:Nat} {xs ys:List Int}:afterE E K p (xs++ys)=afterE E K (afterE E K p xs) ys:=List.foldl_append ..
theorem whl_ok (h:cgB m s nx x a us vs=true):∀ t,reqsB s.length (whl us vs t)∧afterE (egs (prQ m s nx x).1.rows) s.length 0 (whl us vs t)=afterE (egs (prQ m s nx x).1.rows) s.length 0 us
  | 0=>⟨(cgA_ok (cgB_ok h).1).2.2.1,rfl⟩
  | t+1=>by
    obtain ⟨h1,h2⟩:=whl_ok h t
    have h3:=(cgA_ok (cgB_ok h).1).2.2.2.2.1
    refine ⟨fun r hr=>(List.mem_append.1 hr).elim (h1 r) (h3 r),?_⟩
    rw [whl,after_app,h2,(cgB_ok h).2]
theorem seqB_of {n:Nat} {rs:List Int} (h:reqsB n rs) (hl:rs.length≤60):seqB n rs=true:=by
  unfold seqB
  simp only [Bool.and_eq_true,decide_eq_true_eq]
  refine ⟨by omega,allIn_iff.2 fun r hr => ?_⟩
  have:=h r hr
  omega
theorem ac_ok (hq:(prQ m s nx x).2=false) {rs:List Int} (h:reqsB s.length rs) (hl:rs.length≤60):acB m s nx x rs=true∧takesB m s x rs=true:=by
  have hk:(takesB m s x [] && algB m s nx)=true:=by
    cases h:(takesB m s x [] && algB m s nx)
    · rw [prQ_bad h] at hq;cases hq
    · rfl
  rw [Bool.and_eq_true] at hk
  have h2:takesB m s x rs=true:=by
    have h1:=hk.1
    unfold takesB at h1 ⊢
    simp only [Bool.and_eq_true] at h1 ⊢
    exact ⟨h1.1,seqB_of h hl⟩
  exact ⟨by unfold acB;rw [h2,hk.2];rfl,h2⟩
theorem ac_bd (m s nx:List (List Int)) (x:Int) (rs:List Int):0≤acV m s nx x rs∧acV m s nx x rs≤10000:=by
  unfold acV
  cases ht:acB m s nx x rs
  · simp
  · unfold acB at ht
    rw [Bool.and_eq_true] at ht
    obtain ⟨hp,⟨k,rfl,hk⟩,hq,hl⟩:=takes_ok ht.1
    have:=costS_bd hp ht.2 rs k hk hq
    rw [Int.toNat_natCast]
    simp only [cond_true]
    omega
theorem lc_bd (m s:List (List Int)) (x:Int) (rs:List Int):0≤lcV m s x rs∧lcV m s x rs≤10000:=by
  unfold lcV
  cases ht:takesB m s x rs
  · simp
  · obtain ⟨hp,⟨k,rfl,hk⟩,hq,hl⟩:=takes_ok ht
    exact opt_bd hp hk hq hl
/-- each time that the cycle is gone through the cost grows by as much more -/
theorem cg_round (h:cgB m s nx x a us vs=true) (t:Nat) (hl:(whl us vs t).length+vs.length≤60):(acB m s nx x (whl us vs t)=true∧takesB m s x (whl us vs t)=true)∧(acB m s nx x (whl us vs t++vs)=true∧takesB m s x (whl us vs t++vs)=true)∧a.2*(acV m s nx x (whl us vs t++vs)-acV m s nx x (whl us vs t))-a.1*(lcV m s x (whl us vs t++vs)-lcV m s x (whl us vs t))=cgV m s nx x a us vs:=by
  obtain ⟨hq,_,k3,_,k5,_,_⟩:=cgA_ok (cgB_ok h).1
  obtain ⟨w1,w2⟩:=whl_ok h t
  have w3:reqsB s.length (whl us vs t++vs):=(whl_ok h (t+1)).1
  have a1:=ac_ok hq w1 (by omega)
  have a2:=ac_ok hq w3 (by rw [List.length_append];exact hl)
  refine ⟨a1,a2,?_⟩
  have hF:=prQ_full hq
  obtain ⟨k,rfl,hk,hp,ha,hw,hW⟩:=prQ_w hq
  have hg:=cyc_gain hp ha hF hw hW hk w1 k5 (by omega) a
  rw [w2] at hg
  unfold acV lcV cgV
  rw [h,a1.1,a1.2,a2.1,a2.2]
  simp only [cond_true,Int.toNat_natCast]
  exact hg.symm
end
end Go.Proofs.YtlhdeofkhajigaaGreat
/- The law on cycles, on the machine. Conditions: bytes are bytes. -/
set_option linter.all false
set_option linter.unusedSimpArgs false
set_option linter.unusedVariables false
namespace Go.Proofs.YtlhdeofkhajigaaGreat
open Go Go.RowKit Am

def i64 (x:Int):Prop := -9223372036854775808≤x∧x≤9223372036854775807

theorem fpN {m s nx:List (List Int)} {x:Int} {a:Int×Int} (h:ptO m s nx x a=none):Does Tryz.prog 22 [prA m s,.sl (.ii nx),.int x,frA a] (.imm (.tup [.one (.b (.val (.slice none 0 0))),.one (.b (.val (.bool false)))])):=by
  have h1:=imm_of (impl_FindPotential_v m s nx x a)
  rw [h] at h1
  exact h1
theorem whl_len (us vs:List Int):∀ k,(whl us vs k).length=us.length+k*vs.length
  | 0=>by simp [whl]
  | k+1=>by rw [whl,List.length_append,whl_len us vs k,Nat.succ_mul,Nat.add_assoc]
theorem walkC_big {bs:List Int} (h:65536<(bs.length:Int)):Does Tryz.prog 5 [.lf (.b (.raw bs))] (.imm (.bool true)):=by
  refine spec_imm Tryz.func5 rfl Tryz.ntmps5 cfOK (fun _ _=>by kernel_rfl) rfl (Nat.le_of_ble_eq_true rfl) ?_
  intro M0 w0
  rw [Tryz.results5]
  refine amGo ?_
  ((try refine Or.inl ?_);refine ⟨_,(rBig_d bs),.inl rfl,?_⟩;refine amC ?_)
  refine amGo ?_
  refine awp_cond amQ (fun h0 => ?_) (fun h0 => ?_)
  · refine amGo ?_
    (simp only [xe,simprocAttr];refine ⟨_,rfl,rfl,Imp.eq ?_⟩)
    rfl
  · simp at h0;omega
set_option maxRecDepth 20000 in
set_option maxHeartbeats 4000000 in
theorem walkC {bs:List Int} {m s nx:List (List Int)} {x:Int} {r:Int×Int} {m2 s2 n2:List (List Int)} {y:Int} {r2:Int×Int} {us vs:List Int} (hsm:¬ 65536<(bs.length:Int)) (hD:Does Tryz.prog 31 [.lf (.b (.raw bs))] (.imm (fpR m s nx x r))) (hD2:Does Tryz.prog 34 [.lf (.b (.raw bs))] (.imm (cgR m2 s2 n2 y r2 us vs))):Does Tryz.prog 5 [.lf (.b (.raw bs))] (.imm (.bool true)):=by
  have h1:=fcI m s nx x r
  have h2:=fcS m s nx x r
  have h3:=fpI m s nx x r
  have h4:=fpS m s nx x r
  have h5:=cyc_pt m s nx x r
  generalize cyT m s nx x r=ct at *
  generalize ptT m s nx x r=pt at *
  obtain ⟨cp,cw,cb⟩:=ct
  obtain ⟨pw,pb⟩:=pt
  have cgi:=impl_CycleGain_d m2 s2 n2 y r2 us vs
  have cgs:=spec_CycleGain_d m2 s2 n2 y r2 us vs
  have cgn:=fun (h:cgB m2 s2 n2 y r2 us vs=true) (h0:0<cgV m2 s2 n2 y r2 us vs)=>fpN (cg_none h h0)
  have cgr:=fun (h:cgB m2 s2 n2 y r2 us vs=true)=>cg_round h
  have gr:=fun (h:cgB m2 s2 n2 y r2 us vs=true)=>ratio_ok (cgA_ok (cgB_ok h).1).2.1
  have gz:=fun (h:cgB m2 s2 n2 y r2 us vs=true)=>(show us.length≤60∧vs.length≤6 from ⟨(cgA_ok (cgB_ok h).1).2.2.2.1,(cgA_ok (cgB_ok h).1).2.2.2.2.2.1⟩)
  have gA:=fun rs=>impl_AlgorithmCost_v m2 s2 n2 y rs
  have gL:=fun rs=>impl_LeastCost_v m2 s2 y rs
  have gAb:=ac_bd m2 s2 n2 y
  have gLb:=lc_bd m2 s2 y
  generalize cgB m2 s2 n2 y r2 us vs=gb at *
  generalize cgV m2 s2 n2 y r2 us vs=gv at *
  obtain ⟨a,b⟩:=r
  obtain ⟨c,d⟩:=r2
  refine spec_imm Tryz.func5 rfl Tryz.ntmps5 cfOK (fun _ _=>by kernel_rfl) rfl (Nat.le_of_ble_eq_true rfl) ?_
  intro M0 w0
  rw [Tryz.results5]
  refine amGo ?_
  ((try refine Or.inl ?_);refine ⟨_,(rBig_d bs),.inl rfl,?_⟩;refine amC ?_)
  refine amGo ?_
  refine awp_cond amQ (fun e0 => ?_) (fun e0 => ?_)
  · simp at e0;omega
  refine amGo ?_
  ((try refine Or.inl ?_);refine ⟨_,(hD),amF,?_⟩;refine amC ?_)
  refine amGo ?_
  ((try refine Or.inl ?_);refine ⟨_,(h1),amF,?_⟩;refine amC ?_)
  refine amGo ?_
  ((try refine Or.inl ?_);refine ⟨_,(h2),amF,?_⟩;refine amC ?_)
  refine amGo ?_
  ((try refine Or.inl ?_);refine ⟨_,(fun _=>rInts_s cw),.inl rfl,?_⟩;refine amC ?_)
  refine amGo ?_
  refine awp_cond amQ (fun e1 => ?_) (fun e1 => ?_)
  · simp at e1
  refine amGo ?_
  ((try refine Or.inl ?_);refine ⟨_,(h3),amF,?_⟩;refine amC ?_)
  refine amGo ?_
  ((try refine Or.inl ?_);refine ⟨_,(h4),amF,?_⟩;refine amC ?_)
  refine amGo ?_
  ((try refine Or.inl ?_);refine ⟨_,(fun _=>rInts_s pw),.inl rfl,?_⟩;refine amC ?_)
  refine amGo ?_
  refine awp_cond amQ (fun e2 => ?_) (fun e2 => ?_)
  · exfalso
    revert e2 h5
    cases cb<;>cases pb<;>simp
  refine amGo ?_
  ((try refine Or.inl ?_);refine ⟨_,(hD2),amF,?_⟩;refine amC ?_)
  refine amGo ?_
  ((try refine Or.inl ?_);refine ⟨_,(cgi),.inl rfl,?_⟩;refine amC ?_)
  refine amGo ?_
  ((try refine Or.inl ?_);refine ⟨_,(cgs),.inl rfl,?_⟩;refine amC ?_)
  refine amGo ?_
  refine awp_cond amQ (fun e3 => ?_) (fun e3 => ?_)
  · simp at e3
  refine amGo ?_
  refine awp_cond amQ (fun e4 => ?_) (fun e4 => ?_)
  · refine amGo ?_
    (simp only [xe,simprocAttr];refine ⟨_,rfl,rfl,Imp.eq ?_⟩)
    rfl
  have e5:gb=true:=by simpa using e4
  have cgn:=cgn e5
  have cgr:=cgr e5
  obtain ⟨r1,r2,r3,r4⟩:=gr e5
  obtain ⟨z1,z2⟩:=gz e5
  clear cgi cgs h1 h2 h3 h4 h5 hD hD2 gr gz
  have cgf:∀ t,(whl us vs t).length+vs.length≤60→(i64 (acV m2 s2 n2 y (whl us vs t++vs)-acV m2 s2 n2 y (whl us vs t))∧i64 (lcV m2 s2 y (whl us vs t++vs)-lcV m2 s2 y (whl us vs t))∧i64 (d*(acV m2 s2 n2 y (whl us vs t++vs)-acV m2 s2 n2 y (whl us vs t)))∧i64 (c*(lcV m2 s2 y (whl us vs t++vs)-lcV m2 s2 y (whl us vs t)))∧i64 gv)∧acB m2 s2 n2 y (whl us vs t)=true∧takesB m2 s2 y (whl us vs t)=true∧acB m2 s2 n2 y (whl us vs t++vs)=true∧takesB m2 s2 y (whl us vs t++vs)=true∧d*(acV m2 s2 n2 y (whl us vs t++vs)-acV m2 s2 n2 y (whl us vs t))-c*(lcV m2 s2 y (whl us vs t++vs)-lcV m2 s2 y (whl us vs t))=gv:=fun t ht=>by
    obtain ⟨⟨k1,k2⟩,⟨k3,k4⟩,k5⟩:=cgr t ht
    have b1:=gAb (whl us vs t)
    have b2:=gAb (whl us vs t++vs)
    have b3:=gLb (whl us vs t)
    have b4:=gLb (whl us vs t++vs)
    generalize acV m2 s2 n2 y (whl us vs t++vs)=A1 at *
    generalize acV m2 s2 n2 y (whl us vs t)=A0 at *
    generalize lcV m2 s2 y (whl us vs t++vs)=L1 at *
    generalize lcV m2 s2 y (whl us vs t)=L0 at *
    have m1:=mul_bd (x:=A1-A0) (y:=d) (X:=10000) (Y:=100000000) ⟨by omega,by omega⟩ ⟨by omega,by omega⟩
    have m2:=mul_bd (x:=L1-L0) (y:=c) (X:=10000) (Y:=100000000) ⟨by omega,by omega⟩ ⟨by omega,by omega⟩
    rw [Int.mul_comm (A1-A0) d] at m1
    rw [Int.mul_comm (L1-L0) c] at m2
    refine ⟨⟨by unfold i64;omega,by unfold i64;omega,by unfold i64;omega,by unfold i64;omega,?_⟩,k1,k2,k3,k4,k5⟩
    have k5:d*(A1-A0)-c*(L1-L0)=gv:=k5
    unfold i64
    omega
  clear cgr gAb gLb
  refine amGo ?_
  apply share
  · intro H
    refine awp_meet ⟨tab [(17,true,.lf (.ptr 2 0)),(18,true,.sl (.ii n2)),(19,true,.int y),(20,true,.lf (.ptr 3 0)),(21,true,.sl (.ints us)),(22,true,.sl (.ints vs)),(23,true,.int gv)],[.box [.b (.sl (.ii m)),.b (.sl (.ii s))],.box [.b (.val (.int .i64 a)),.b (.val (.int .i64 b))],.box [.b (.sl (.ii m2)),.b (.sl (.ii s2))],.box [.b (.val (.int .i64 c)),.b (.val (.int .i64 d))]]⟩ ?_ (H ())
    refine awp_cond amQ (fun e6 => ?_) (fun e6 => ?_)
    · have e6:=of_decide_eq_true e6
      refine amGo ?_
      ((try refine Or.inl ?_);refine ⟨_,(cgn e6),.inl rfl,?_⟩;refine amC ?_)
      refine amGo ?_
      refine awp_cond amQ (fun e7 => ?_) (fun e7 => ?_)
      · cases e7
      refine amGo ?_
      refine lead_T 4 (Nat.le_of_ble_eq_true rfl) (leT_of ?_ rfl rfl rfl)
      ((try simp only [xk]);(repeat (refine leK_cons ?_ ?_;first | (exact amE) | rotate_left));(refine leK_nil ?_;exact (by rfl));(all_goals (try (simp only [xr,simprocAttr];try refine int_eq1 ?_))))
    · refine amGo ?_
      refine lead_T 4 (Nat.le_of_ble_eq_true rfl) (leT_of ?_ rfl rfl rfl)
      ((try simp only [xk]);(repeat (refine leK_cons ?_ ?_;first | (exact amE) | rotate_left));(refine leK_nil ?_;exact (by rfl));(all_goals (try (simp only [xr,simprocAttr];try refine int_eq1 ?_))))
  refine amGo ?_
  (refine awp_frz 4 rfl ?_;simp only [xz,simprocAttr])
  refine amGo ?_
  refine awp_rounds (α:=Nat) (fun k=>[(30,true,.int k),(29,true,.sl (.ints (whl us vs k)))]) [17,18,19,20,21,22,23] (fun _=>[.box [.b (.sl (.ii m)),.b (.sl (.ii s))],.box [.b (.val (.int .i64 a)),.b (.val (.int .i64 b))],.box [.b (.sl (.ii m2)),.b (.sl (.ii s2))],.box [.b (.val (.int .i64 c)),.b (.val (.int .i64 d))],.gone]) (fun k=>k≤3) (fun k=>3-k) 0 (by ((try simp only [xk]);(repeat (refine leK_cons ?_ ?_;first | (exact amE) | rotate_left));(refine leK_nil ?_;exact (by rfl));(all_goals (try (simp only [xr,simprocAttr];try refine int_eq1 ?_))))) (by omega) fun k hk => ?_
  have hwk:(whl us vs k).length≤60+3*6:=by
    rw [whl_len]
    have:=Nat.mul_le_mul hk z2
    omega
  simp only [xr,simprocAttr]
  refine amGo ?_
  refine awp_cond amQ (fun e8 => ?_) (fun e8 => ?_)
  · have e9:k<3∧(whl us vs k).length+vs.length≤60:=by
      cases h1:decide ((k:Int)<3)
      · rw [h1] at e8;cases e8
      · rw [h1] at e8
        have h2:=of_decide_eq_true h1
        have h3:((whl us vs k).length:Int)+(vs.length:Int)≤60:=of_decide_eq_true e8
        omega
    obtain ⟨⟨i1,i2,i3,i4,i5⟩,k1,k2,k3,k4,k5⟩:=cgf k e9.2
    have A0:=gA (whl us vs k)
    have A1:=gA (whl us vs k++vs)
    have L0:=gL (whl us vs k)
    have L1:=gL (whl us vs k++vs)
    rw [k1] at A0
    rw [k3] at A1
    rw [k2] at L0
    rw [k4] at L1
    generalize acV m2 s2 n2 y (whl us vs k++vs)=a1 at *
    generalize acV m2 s2 n2 y (whl us vs k)=a0 at *
    generalize lcV m2 s2 y (whl us vs k++vs)=l1 at *
    generalize lcV m2 s2 y (whl us vs k)=l0 at *
    have q1:I64 (a1-a0):=i1
    have q2:I64 (l1-l0):=i2
    have q3:I64 (d*(a1-a0)):=i3
    have q4:I64 (c*(l1-l0)):=i4
    have q5:I64 (d*(a1-a0)-c*(l1-l0)):=k5 ▸ i5
    refine amG1 ?_
    (refine awp_frz 5 rfl ?_;simp only [xz,simprocAttr])
    refine amGo ?_
    ((try refine Or.inl ?_);refine ⟨_,(A0),.inl rfl,?_⟩;refine amC ?_)
    refine amGo ?_
    ((try refine Or.inl ?_);refine ⟨_,(A1),.inl rfl,?_⟩;refine amC ?_)
    refine amGo ?_
    ((try refine Or.inl ?_);refine ⟨_,(L0),.inl rfl,?_⟩;refine amC ?_)
    refine amGo ?_
    ((try refine Or.inl ?_);refine ⟨_,(L1),.inl rfl,?_⟩;refine amC ?_)
    refine amGo ?_
    refine awp_cond amQ (fun e10 => ?_) (fun e10 => ?_)
    · rw [k5] at e10
      simp at e10
    refine amGo ?_
    refine ⟨k+1,by omega,by omega,.inr ⟨5,Nat.le_of_ble_eq_true rfl,leT_of ?_ rfl rfl rfl⟩⟩
    ((try simp only [xk]);(repeat (refine leK_cons ?_ ?_;first | (exact amE) | rotate_left));(refine leK_nil ?_;exact (by rfl));(all_goals (try (simp only [xr,simprocAttr];try refine int_eq1 ?_))))
  · refine amGo ?_
    (simp only [xe,simprocAttr];refine ⟨_,rfl,rfl,Imp.eq ?_⟩)
    rfl
end Go.Proofs.YtlhdeofkhajigaaGreat
