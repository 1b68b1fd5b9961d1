/- IsPotential, on the machine: the program's. Conditions: a whole graph of pairs, and numbers for its pairs. -/
import Derived.Test.YtlhdeofkhajigaaGreatGraph
import Derived.Test.YtlhdeofkhajigaaGreatGED
import Derived.Test.YtlhdeofkhajigaaGreatCB
import Derived.Test.YtlhdeofkhajigaaGreatGGR
set_option linter.all false
set_option linter.unusedSimpArgs false
set_option linter.unusedVariables false
namespace Go.Proofs.YtlhdeofkhajigaaGreat
open Go Go.RowKit Am

theorem indexFuncE_d (xs:List (List Int)) (K:Nat) (caps:List Lf) (p:List Int→Bool) (hcap:caps.all capOK=true) (hK:∀ j,j<xs.length→Does Tryz.prog K (fourE (xs.getD j [])::caps.map fun y => .tv (.one y)) (.imm (.bool (p (xs.getD j []))))) :
    Does Tryz.prog 95 [.sl (.k 4 xs),.clo K caps] (.imm (.int (idxOf p xs))):=by
  refine spec_imm Tryz.func95 rfl Tryz.ntmps95 cfOK (fun _ _=>by kernel_rfl) (by simp only [List.all_cons,List.all_nil,clo_free hcap];rfl) (Nat.le_of_ble_eq_true rfl) ?_
  intro M0 w0
  rw [Tryz.results95]
  (refine awp_fits 0 rfl fun hf => ?_;simp only [xp,simprocAttr] at hf;simp only [xf,simprocAttr] at hf)
  refine amGo ?_
  refine awp_rounds (α:=Nat) (fun k=>[(8,true,.int k)]) [0,1,6,7] (fun _=>[]) (fun k=>k≤xs.length∧∀ x∈xs.take k,p x=false) (fun k=>xs.length-k) 0 (by ((try simp only [xk]);(repeat (refine leK_cons ?_ ?_;first | (exact amE) | rotate_left));(try exact leK_nil rfl);(all_goals (try (simp only [xr,simprocAttr];try refine int_eq1 ?_))))) ⟨Nat.zero_le _,by simp⟩ fun k hk => ?_
  obtain ⟨hk,hp⟩:=hk
  simp only [xr,simprocAttr]
  refine amGo ?_
  refine awp_cond amQ (fun hc => ?_) (fun hc => ?_)
  · have hk':k<xs.length:=by simpa using hc
    have hx:xs.getD k []=xs[k]:=by simp [hk']
    refine amGo ?_
    (simp only [xr,simprocAttr,caps_view hcap];refine amS ?_)
    ((try refine Or.inl ?_);refine ⟨_,(hK k hk'),.inl rfl,?_⟩;refine amC ?_)
    refine amGo ?_
    refine awp_cond amQ (fun hd => ?_) (fun hd => ?_)
    · refine amGo ?_
      (simp only [xe,simprocAttr];refine ⟨_,rfl,rfl,Imp.eq ?_⟩)
      rw [hx] at hd
      rw [idxOf_some hk' hd hp]
    · refine amGo ?_
      refine ⟨k+1,by omega,fun x hx' => ?_,by omega,.inl ?_⟩
      · rw [List.take_succ_eq_append_getElem hk',List.mem_append,List.mem_singleton] at hx'
        rcases hx' with hx' | rfl
        · exact hp x hx'
        · rw [← hx];exact hd
      · ((try simp only [xk]);(repeat (refine leK_cons ?_ ?_;first | (exact amE) | rotate_left));(try exact leK_nil rfl);(all_goals (try (simp only [xr,simprocAttr];try refine int_eq1 ?_))))
  · have hk':k=xs.length:=by simp at hc;omega
    subst hk'
    rw [List.take_length] at hp
    refine amGo ?_
    (simp only [xe,simprocAttr];refine ⟨_,rfl,rfl,Imp.eq ?_⟩)
    rw [idxOf_none hp]
/-- an edge at which numbers are no potential -/
def brk (a:Int×Int) (tab:List Int) (e:List Int):Bool:=decide (tab.getD (e.getD 0 0).toNat 0<gainC a.1 a.2 e+tab.getD (e.getD 1 0).toNat 0)
theorem broken1_d {a:Int×Int} {tab:List Int} {e:List Int} {n:Nat} (hl:tab.length=n) (h0:0≤e.getD 0 0∧e.getD 0 0<n∧0≤e.getD 1 0∧e.getD 1 0<n) (hg:0≤a.2*e.getD 2 0∧a.2*e.getD 2 0≤11900000000∧0≤a.1*e.getD 3 0∧a.1*e.getD 3 0≤11900000000) (hb:∀ k,k<n→0≤tab.getD k 0∧tab.getD k 0≤1000000000000000):Does Tryz.prog 96 [fourE e,.lf (.ip [.val (.int .i64 a.1),.val (.int .i64 a.2)] 0),.lf (.ip [.sl (.ints tab)] 0)] (.imm (.bool (brk a tab e))):=by
  have h1:=hb (e.getD 1 0).toNat (by omega)
  have h2:=hb (e.getD 0 0).toNat (by omega)
  have hgc:gainC a.1 a.2 e=a.2*e.getD 2 0-a.1*e.getD 3 0:=rfl
  refine spec_imm Tryz.func96 rfl Tryz.ntmps96 cfOK (fun _ _=>by kernel_rfl) rfl (Nat.le_of_ble_eq_true rfl) ?_
  intro M0 w0
  rw [Tryz.results96]
  (refine awp_fits 2 rfl fun hf => ?_;simp only [xp,simprocAttr] at hf;simp only [xf,simprocAttr] at hf)
  refine amGo ?_
  ((try refine Or.inl ?_);refine ⟨_,(gain_d e a hg.1 (by omega) hg.2.2.1 (by omega)),.inl rfl,?_⟩;refine amC ?_)
  refine amGo ?_
  (simp only [xe,simprocAttr];refine ⟨_,rfl,rfl,Imp.eq ?_⟩)
  rfl
theorem broken_d {L E:List (List Int)} {n K:Nat} (hE:EgI E n) (hc:∀ e∈E,0≤e.getD 2 0∧e.getD 2 0≤119∧0≤e.getD 3 0∧e.getD 3 0≤119) {a:Int×Int} (ha:ratioB a=true) {tab:List Int} (ht:tbB n tab=true):Does Tryz.prog 48 [prX L E K,frA a,.sl (.ints tab)] (.imm (.int (idxOf (brk a tab) E))):=by
  obtain ⟨h1,h2,h3,h4⟩:=ratio_ok ha
  have hW:=wt_bd hc (a:=a.1) (b:=a.2) h1 h2 (by omega) (by omega)
  have hl:tab.length=n:=by unfold tbB at ht;rw [Bool.and_eq_true,beq_iff_eq] at ht;exact ht.1
  obtain ⟨a,b⟩:=a
  refine spec_imm Tryz.func48 rfl Tryz.ntmps48 cfOK (fun _ _=>by kernel_rfl) rfl (Nat.le_of_ble_eq_true rfl) ?_
  intro M0 w0
  rw [Tryz.results48]
  refine amGo ?_
  ((try refine Or.inl ?_);refine ⟨_,(indexFuncE_d E _ [.ip [.val (.int .i64 a),.val (.int .i64 b)] 0,.ip [.sl (.ints tab)] 0] (brk (a,b) tab) rfl fun j hj=>broken1_d (a:=(a,b)) hl (hE.at_ _ (getD_mem hj)) (hW _ (getD_mem hj)).1 fun k hk=>(tab_at ht hk).2),.inl rfl,?_⟩;refine amC ?_)
  refine amGo ?_
  (simp only [xe,simprocAttr];refine ⟨_,rfl,rfl,Imp.eq ?_⟩)
  rfl
/-- what is told of numbers: whether they are a potential -/
def ipB (m s nx:List (List Int)) (x:Int) (a:Int×Int) (tab:List Int):Bool:=tbB (prQ m s nx x).1.list.length tab && !(egs (prQ m s nx x).1.rows).any (brk a tab)
def ipO (m s nx:List (List Int)) (x:Int) (a:Int×Int):Bool := !(prQ m s nx x).2 && ratioB a
theorem impl_IsPotential_d (m s nx:List (List Int)) (x:Int) (a:Int×Int) (tab:List Int):Does Tryz.prog 9 [prA m s,.sl (.ii nx),.int x,frA a,.sl (.ints tab)] (.imm (b2V (ipO m s nx x a && ipB m s nx x a tab) (ipO m s nx x a))):=by
  have hP:=pairsOf_h m s nx x
  cases hq:(prQ m s nx x).2
  · have hF:=prQ_full hq
    rw [show prR (prQ m s nx x) = .tup [.one (.ptr 0 0),.one (.b (.val (.bool true)))] by unfold prR;rw [hq];rfl,show prO s.length (prQ m s nx x)=[.box [.own 1,.own 2,.b (.val (.int .i64 s.length))],.row 36 (.k 2 (prQ m s nx x).1.list),.row 93 (.k 4 (egs (prQ m s nx x).1.rows))] by unfold prO;rw [hq];rfl] at hP
    have e1:ipO m s nx x a=ratioB a:=by unfold ipO;rw [hq];rfl
    rw [e1]
    unfold ipB
    generalize (prQ m s nx x).1=g at hP hF
    have hle:=hF.le
    cases hra:ratioB a
    · skip
      refine spec_imm Tryz.func9 rfl Tryz.ntmps9 cfOK (fun _ _=>by kernel_rfl) rfl (Nat.le_of_ble_eq_true rfl) ?_
      intro M0 w0
      rw [Tryz.results9]
      refine amGo ?_
      (refine .inr (.inl (callW_a [] (hP) rfl rfl rfl rfl trivial rfl rfl rfl rfl ?_));refine amC ?_)
      refine amGo ?_
      ((try refine Or.inl ?_);refine ⟨_,(isRatio_d a),.inl rfl,?_⟩;refine amC ?_)
      refine amGo ?_
      refine awp_cond amQ (fun hr => ?_) (fun hr => ?_)
      · refine amGo ?_
        (simp only [xe,simprocAttr];refine ⟨[_,_],⟨rfl,rfl,trivial⟩,rfl,Imp.eq ?_⟩)
        rfl
      · simp [hra] at hr
    have hany:=idxOf_any (brk a tab) (egs g.rows)
    refine spec_imm Tryz.func9 rfl Tryz.ntmps9 cfOK (fun _ _=>by kernel_rfl) rfl (Nat.le_of_ble_eq_true rfl) ?_
    intro M0 w0
    rw [Tryz.results9]
    refine amGo ?_
    (refine .inr (.inl (callW_a [] (hP) rfl rfl rfl rfl trivial rfl rfl rfl rfl ?_));refine amC ?_)
    refine amGo ?_
    ((try refine Or.inl ?_);refine ⟨_,(isRatio_d a),.inl rfl,?_⟩;refine amC ?_)
    refine amGo ?_
    refine awp_cond amQ (fun hr => ?_) (fun hr => ?_)
    · simp [hra] at hr
    refine amGo ?_
    ((try refine Or.inl ?_);refine ⟨_,(areNumbers_d tab g.list.length (by omega)),.inl rfl,?_⟩;refine amC ?_)
    refine amGo ?_
    ((try refine Or.inl ?_);refine ⟨_,(fun h=>broken_d (L:=g.list) (K:=s.length) (eg_I hF) (eg_c hF) hra h),.inl rfl,?_⟩;refine amC ?_)
    refine amGo ?_
    (simp only [xe,simprocAttr];refine ⟨[_,_],⟨rfl,rfl,trivial⟩,rfl,Imp.eq ?_⟩)
    rw [← hany]
    by_cases hz:idxOf (brk a tab) (egs g.rows)<0
    · rw [decide_eq_false (show ¬ 0≤idxOf (brk a tab) (egs g.rows) by omega),decide_eq_true hz];cases tbB g.list.length tab<;>rfl
    · rw [decide_eq_true (show 0≤idxOf (brk a tab) (egs g.rows) by omega),decide_eq_false hz];cases tbB g.list.length tab<;>rfl
  · rw [show prR (prQ m s nx x) = .tup [.one (.b (.val (.pointer none))),.one (.b (.val (.bool false)))] by unfold prR;rw [hq];rfl,show prO s.length (prQ m s nx x)=[] by unfold prO;rw [hq];rfl] at hP
    have e1:ipO m s nx x a=false:=by unfold ipO;rw [hq];rfl
    rw [e1]
    refine spec_imm Tryz.func9 rfl Tryz.ntmps9 cfOK (fun _ _=>by kernel_rfl) rfl (Nat.le_of_ble_eq_true rfl) ?_
    intro M0 w0
    rw [Tryz.results9]
    refine amGo ?_
    (refine .inr (.inl (callW_a [] (hP) rfl rfl rfl rfl trivial rfl rfl rfl rfl ?_));refine amC ?_)
    refine amGo ?_
    refine .inl ⟨AV.bool false,.inl rfl,?_⟩
    simp only [xr,simprocAttr]
    refine amGo ?_
    refine awp_cond amQ (fun hr => ?_) (fun hr => ?_)
    · refine amGo ?_
      (simp only [xe,simprocAttr];refine ⟨[_,_],⟨rfl,rfl,trivial⟩,rfl,Imp.eq ?_⟩)
      rfl
    · simp at hr
end Go.Proofs.YtlhdeofkhajigaaGreat
/- CycleGain, on the machine: the program's and the reference's. Conditions: none. -/
set_option linter.all false
set_option linter.unusedSimpArgs false
set_option linter.unusedVariables false
namespace Go.Proofs.YtlhdeofkhajigaaGreat
open Go Go.RowKit Am

theorem eg3_at {rows:List (List (List Int))} {p r:Nat} (hr:r<(rows.getD p []).length):((eg3 rows).getD p []).getD r []=c3 ((rows.getD p []).getD r []):=by
  have e:(eg3 rows).getD p []=(rows.getD p []).map c3:=by
    unfold eg3
    rw [List.getD_eq_getElem?_getD,List.getD_eq_getElem?_getD,List.getElem?_map]
    cases rows[p]? <;> rfl
  rw [e]
  generalize rows.getD p []=row at hr
  rw [List.getD_eq_getElem?_getD,List.getD_eq_getElem?_getD,List.getElem?_map,List.getElem?_eq_getElem hr]
  rfl
theorem eg3_rl {rows:List (List (List Int))} {p:Nat}:((eg3 rows).getD p []).length=(rows.getD p []).length:=by
  unfold eg3
  rw [List.getD_eq_getElem?_getD,List.getD_eq_getElem?_getD,List.getElem?_map]
  cases rows[p]? <;> simp
theorem eg3_e {m s:List (List Int)} {g:PrT} (hF:PrFull m s g) {p r:Nat} (hp:p<g.list.length) (hr:r<s.length):((eg3 g.rows).getD p []).getD r []=c3 ((egs g.rows).getD (p*s.length+r) []):=by
  have hrl:=hF.rlen
  rw [egs_at hF.row p r (by omega) hr]
  exact eg3_at (by rw [hF.row p (by omega)];exact hr)
theorem l9After_d {m s:List (List Int)} {g:PrT} (hF:PrFull m s g) {p:Nat} (hp:p<g.list.length) {rs:List Int} (hq:reqsB s.length rs) (hl:rs.length≤1000):Does Tryz.prog 56 [grA g,.int p,.sl (.ints rs)] (.imm (.int (afterE (egs g.rows) s.length p rs))):=by
  have hE:=ed_ok hF
  have hrl:=hF.rlen
  have hel:(eg3 g.rows).length=g.rows.length:=by simp [eg3]
  have hps:=prob_len hF.prob
  refine spec_imm Tryz.func56 rfl Tryz.ntmps56 cfOK (fun _ _=>by kernel_rfl) rfl (Nat.le_of_ble_eq_true rfl) ?_
  intro M0 w0
  rw [Tryz.results56]
  (refine awp_fits 2 rfl fun hf => ?_;simp only [xp,simprocAttr] at hf;simp only [xf,simprocAttr] at hf)
  refine amGo ?_
  refine awp_rounds (α:=Nat) (fun k=>[(7,true,.int k),(1,true,.int (afterE (egs g.rows) s.length p (rs.take k)))]) [2,3] (fun _=>[.box [.b (.sl (.k 2 g.list)),.b (.sl (.ki 3 (eg3 g.rows))),.b (.val (.bool false))]]) (fun k=>k≤rs.length) (fun k=>rs.length-k) 0 (by ((try simp only [xk]);(repeat (refine leK_cons ?_ ?_;first | (exact amE) | rotate_left));(try exact leK_nil rfl);(all_goals (try (simp only [xr,simprocAttr];try refine int_eq1 ?_))))) (Nat.zero_le _) fun k hk => ?_
  simp only [xr,simprocAttr]
  refine amGo ?_
  refine awp_cond amQ (fun hc => ?_) (fun hc => ?_)
  · have hc:=of_decide_eq_true hc
    have hk':k<rs.length:=by omega
    obtain ⟨r,h1,h2⟩:=hq.at hk'
    have h3:=after_lt hE hp hq k hk
    have h4:=eg3_e hF h3 h2
    have h5:=hF.row _ (show afterE (egs g.rows) s.length p (rs.take k)<g.rows.length by omega)
    have h6:((eg3 g.rows).getD (afterE (egs g.rows) s.length p (rs.take k)) []).length=s.length:=eg3_rl.trans h5
    have h7:=toE_at hE h3 h2
    refine amGo ?_
    refine ⟨k+1,by omega,by omega,.inl ?_⟩
    ((try simp only [xk]);(repeat (refine leK_cons ?_ ?_;first | (exact amE) | rotate_left));(try exact leK_nil rfl);(all_goals (try (simp only [xr,simprocAttr];try refine int_eq1 ?_))))
    rw [after_take hk',h1,Int.toNat_natCast,h4,← h7.1]
    rfl
  · have hc:=of_decide_eq_false hc
    obtain rfl:k=rs.length:=by omega
    refine amGo ?_
    (simp only [xe,simprocAttr];refine ⟨_,rfl,rfl,Imp.eq ?_⟩)
    rw [List.take_length]
end Go.Proofs.YtlhdeofkhajigaaGreat
