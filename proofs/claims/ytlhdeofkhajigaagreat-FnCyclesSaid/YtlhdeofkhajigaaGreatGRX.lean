/- IsPotential, on the machine: the program's. Conditions: a whole graph of pairs, and numbers for its pairs. -/
import Derived.Test.YtlhdeofkhajigaaGreatGraph
import Derived.Test.YtlhdeofkhajigaaGreatGED
import Derived.Test.YtlhdeofkhajigaaGreatCB
import Derived.Test.YtlhdeofkhajigaaGreatGGR
set_option linter.all false
set_option linter.unusedSimpArgs false
set_option linter.unusedVariables false
namespace Go.Proofs.YtlhdeofkhajigaaGreat
open Go Go.RowKit Am

def ipO (m s nx:List (List Int)) (x:Int) (a:Int×Int):Bool := !(prQ m s nx x).2 && ratioB a
end Go.Proofs.YtlhdeofkhajigaaGreat
/- CycleGain, on the machine: the program's and the reference's. Conditions: none. -/
set_option linter.all false
set_option linter.unusedSimpArgs false
set_option linter.unusedVariables false
namespace Go.Proofs.YtlhdeofkhajigaaGreat
open Go Go.RowKit Am

theorem eg3_at {rows:List (List (List Int))} {p r:Nat} (hr:r<(rows.getD p []).length):((eg3 rows).getD p []).getD r []=c3 ((rows.getD p []).getD r []):=by
  have e:(eg3 rows).getD p []=(rows.getD p []).map c3:=by
    unfold eg3
    rw [List.getD_eq_getElem?_getD,List.getD_eq_getElem?_getD,List.getElem?_map]
    cases rows[p]? <;> rfl
  rw [e]
  generalize rows.getD p []=row at hr
  rw [List.getD_eq_getElem?_getD,List.getD_eq_getElem?_getD,List.getElem?_map,List.getElem?_eq_getElem hr]
  rfl
theorem eg3_rl {rows:List (List (List Int))} {p:Nat}:((eg3 rows).getD p []).length=(rows.getD p []).length:=by
  unfold eg3
  rw [List.getD_eq_getElem?_getD,List.getD_eq_getElem?_getD,List.getElem?_map]
  cases rows[p]? <;> simp
theorem eg3_e {m s:List (List Int)} {g:PrT} (hF:PrFull m s g) {p r:Nat} (hp:p<g.list.length) (hr:r<s.length):((eg3 g.rows).getD p []).getD r []=c3 ((egs g.rows).getD (p*s.length+r) []):=by
  have hrl:=hF.rlen
  rw [egs_at hF.row p r (by omega) hr]
  exact eg3_at (by rw [hF.row p (by omega)];exact hr)
theorem walkE_take {E:List (List Int)} {K p k:Nat} {rs:List Int} (h:k<rs.length):walkE E K p (rs.take (k+1))=walkE E K p (rs.take k)++[E.getD (afterE E K p (rs.take k)*K+(rs.getD k 0).toNat) []]:=by
  rw [take_getD h 0,walkE_app]
  rfl
theorem walkE_len {E:List (List Int)} {K:Nat}:∀ (rs:List Int) (p:Nat),(walkE E K p rs).length=rs.length
  | [],_=>rfl
  | r::rs,p=>by rw [walkE,List.length_cons,List.length_cons,walkE_len rs]
theorem l9After_d {m s:List (List Int)} {g:PrT} (hF:PrFull m s g) {p:Nat} (hp:p<g.list.length) {rs:List Int} (hq:reqsB s.length rs) (hl:rs.length≤1000):Does Tryz.prog 56 [grA g,.int p,.sl (.ints rs)] (.imm (.int (afterE (egs g.rows) s.length p rs))):=by
  have hE:=ed_ok hF
  have hrl:=hF.rlen
  have hel:(eg3 g.rows).length=g.rows.length:=by simp [eg3]
  have hps:=prob_len hF.prob
  refine spec_imm Tryz.func56 rfl Tryz.ntmps56 cfOK (fun _ _=>by kernel_rfl) rfl (Nat.le_of_ble_eq_true rfl) ?_
  intro M0 w0
  rw [Tryz.results56]
  (refine awp_fits 2 rfl fun hf => ?_;simp only [xp,simprocAttr] at hf;simp only [xf,simprocAttr] at hf)
  refine amGo ?_
  refine awp_rounds (α:=Nat) (fun k=>[(7,true,.int k),(1,true,.int (afterE (egs g.rows) s.length p (rs.take k)))]) [2,3] (fun _=>[.box [.b (.sl (.k 2 g.list)),.b (.sl (.ki 3 (eg3 g.rows))),.b (.val (.bool false))]]) (fun k=>k≤rs.length) (fun k=>rs.length-k) 0 (by ((try simp only [xk]);(repeat (refine leK_cons ?_ ?_;first | (exact amE) | rotate_left));(try exact leK_nil rfl);(all_goals (try (simp only [xr,simprocAttr];try refine int_eq1 ?_))))) (Nat.zero_le _) fun k hk => ?_
  simp only [xr,simprocAttr]
  refine amGo ?_
  refine awp_cond amQ (fun hc => ?_) (fun hc => ?_)
  · have hc:=of_decide_eq_true hc
    have hk':k<rs.length:=by omega
    obtain ⟨r,h1,h2⟩:=hq.at hk'
    have h3:=after_lt hE hp hq k hk
    have h4:=eg3_e hF h3 h2
    have h5:=hF.row _ (show afterE (egs g.rows) s.length p (rs.take k)<g.rows.length by omega)
    have h6:((eg3 g.rows).getD (afterE (egs g.rows) s.length p (rs.take k)) []).length=s.length:=eg3_rl.trans h5
    have h7:=toE_at hE h3 h2
    refine amGo ?_
    refine ⟨k+1,by omega,by omega,.inl ?_⟩
    ((try simp only [xk]);(repeat (refine leK_cons ?_ ?_;first | (exact amE) | rotate_left));(try exact leK_nil rfl);(all_goals (try (simp only [xr,simprocAttr];try refine int_eq1 ?_))))
    rw [after_take hk',h1,Int.toNat_natCast,h4,← h7.1]
    rfl
  · have hc:=of_decide_eq_false hc
    obtain rfl:k=rs.length:=by omega
    refine amGo ?_
    (simp only [xe,simprocAttr];refine ⟨_,rfl,rfl,Imp.eq ?_⟩)
    rw [List.take_length]
theorem walk_bd {m s:List (List Int)} {g:PrT} (hF:PrFull m s g) {p:Nat} (hp:p<g.list.length) {rs:List Int} (hq:reqsB s.length rs) (hl:rs.length≤1000):0≤sumE cstE (walkE (egs g.rows) s.length p rs)∧sumE cstE (walkE (egs g.rows) s.length p rs)≤119000∧0≤sumE grwE (walkE (egs g.rows) s.length p rs)∧sumE grwE (walkE (egs g.rows) s.length p rs)≤119000:=by
  have h:=((walk_wk hF rs p hp hq).1).bd (eg_B hF)
  have hl2:=walkE_len (E:=egs g.rows) (K:=s.length) rs p
  omega
theorem l9Sums_d {m s:List (List Int)} {g:PrT} (hF:PrFull m s g) {p:Nat} (hp:p<g.list.length) {rs:List Int} (hq:reqsB s.length rs) (hl:rs.length≤1000):Does Tryz.prog 81 [grA g,.int p,.sl (.ints rs)] (.imm (.tup [.one (.b (.val (.int .i64 (sumE cstE (walkE (egs g.rows) s.length p rs))))),.one (.b (.val (.int .i64 (sumE grwE (walkE (egs g.rows) s.length p rs)))))])):=by
  have hE:=ed_ok hF
  have hrl:=hF.rlen
  have hel:(eg3 g.rows).length=g.rows.length:=by simp [eg3]
  have hps:=prob_len hF.prob
  have hec:=eg_c hF
  refine spec_imm Tryz.func81 rfl Tryz.ntmps81 cfOK (fun _ _=>by kernel_rfl) rfl (Nat.le_of_ble_eq_true rfl) ?_
  intro M0 w0
  rw [Tryz.results81]
  (refine awp_fits 2 rfl fun hf => ?_;simp only [xp,simprocAttr] at hf;simp only [xf,simprocAttr] at hf)
  refine amGo ?_
  refine awp_rounds (α:=Nat) (fun k=>[(10,true,.int k),(1,true,.int (afterE (egs g.rows) s.length p (rs.take k))),(8,true,.int (sumE cstE (walkE (egs g.rows) s.length p (rs.take k)))),(9,true,.int (sumE grwE (walkE (egs g.rows) s.length p (rs.take k))))]) [2,3] (fun _=>[.box [.b (.sl (.k 2 g.list)),.b (.sl (.ki 3 (eg3 g.rows))),.b (.val (.bool false))]]) (fun k=>k≤rs.length) (fun k=>rs.length-k) 0 (by ((try simp only [xk]);(repeat (refine leK_cons ?_ ?_;first | (exact amE) | rotate_left));(try exact leK_nil rfl);(all_goals (try (simp only [xr,simprocAttr];try refine int_eq1 ?_))))) (Nat.zero_le _) fun k hk => ?_
  simp only [xr,simprocAttr]
  refine amGo ?_
  refine awp_cond amQ (fun hc => ?_) (fun hc => ?_)
  · have hc:=of_decide_eq_true hc
    have hk':k<rs.length:=by omega
    obtain ⟨r,h1,h2⟩:=hq.at hk'
    have h3:=after_lt hE hp hq k hk
    have h4:=eg3_e hF h3 h2
    have h5:=hF.row _ (show afterE (egs g.rows) s.length p (rs.take k)<g.rows.length by omega)
    have h6:((eg3 g.rows).getD (afterE (egs g.rows) s.length p (rs.take k)) []).length=s.length:=eg3_rl.trans h5
    have h7:=toE_at hE h3 h2
    have h8:=walk_bd hF hp (hq.take k) (by rw [List.length_take];omega)
    have h9:=walk_bd hF hp (hq.take (k+1)) (by rw [List.length_take];omega)
    have h10:=walkE_take (E:=egs g.rows) (K:=s.length) (p:=p) hk'
    rw [h1,Int.toNat_natCast] at h10
    have h11:sumE cstE (walkE (egs g.rows) s.length p (rs.take (k+1)))=sumE cstE (walkE (egs g.rows) s.length p (rs.take k))+(c3 ((egs g.rows).getD (afterE (egs g.rows) s.length p (rs.take k)*s.length+r) [])).getD 1 0:=by
      rw [h10,sumE_app]
      simp only [sumE,Int.add_zero]
      rfl
    have h12:sumE grwE (walkE (egs g.rows) s.length p (rs.take (k+1)))=sumE grwE (walkE (egs g.rows) s.length p (rs.take k))+(c3 ((egs g.rows).getD (afterE (egs g.rows) s.length p (rs.take k)*s.length+r) [])).getD 2 0:=by
      rw [h10,sumE_app]
      simp only [sumE,Int.add_zero]
      rfl
    have h13:=after_take (E:=egs g.rows) (K:=s.length) (p:=p) hk'
    rw [h1,Int.toNat_natCast] at h13
    have hx:((eg3 g.rows).getD (afterE (egs g.rows) s.length p (rs.take k)) []).getD (rs.getD k 0).toNat []=c3 ((egs g.rows).getD (afterE (egs g.rows) s.length p (rs.take k)*s.length+r) []):=by rw [h1,Int.toNat_natCast];exact h4
    rw [← hx] at h11 h12
    rw [h11,h12] at h9
    obtain ⟨i1,i2,i3,i4⟩:=h9
    (refine amB ?_;refine awp_anyM [] 0 [] (by kernel_rfl) (by kernel_rfl) (by kernel_rfl) (by kernel_rfl) (by kernel_rfl) ?_;refine amM ?_)
    refine amGo ?_
    refine ⟨k+1,by omega,by omega,.inr ⟨1,Nat.le_of_ble_eq_true rfl,leT_of ?_ rfl rfl rfl⟩⟩
    ((try simp only [xk]);(repeat (refine leK_cons ?_ ?_;first | (exact amE) | rotate_left));(try exact leK_nil rfl);(all_goals (try (simp only [xr,simprocAttr];try refine int_eq1 ?_))))
    · rw [h13,h1,Int.toNat_natCast,h4,← h7.1]
      rfl
  · have hc:=of_decide_eq_false hc
    obtain rfl:k=rs.length:=by omega
    refine amGo ?_
    (simp only [xe,simprocAttr];refine ⟨[_,_],⟨rfl,rfl,trivial⟩,rfl,Imp.eq ?_⟩)
    rw [List.take_length]
/-- what is right for a cycle's gain, and the gain -/
def cgA (m s nx:List (List Int)) (x:Int) (a:Int×Int) (us vs:List Int):Bool:=ipO m s nx x a && (seqB s.length us && (seqB s.length vs && rng vs.length 1 6))
def cgB (m s nx:List (List Int)) (x:Int) (a:Int×Int) (us vs:List Int):Bool:=cgA m s nx x a us vs && decide ((afterE (egs (prQ m s nx x).1.rows) s.length (afterE (egs (prQ m s nx x).1.rows) s.length 0 us) vs:Int)=(afterE (egs (prQ m s nx x).1.rows) s.length 0 us:Int))
def cgV (m s nx:List (List Int)) (x:Int) (a:Int×Int) (us vs:List Int):Int:=bif cgB m s nx x a us vs then gainE a (egs (prQ m s nx x).1.rows) s.length (afterE (egs (prQ m s nx x).1.rows) s.length 0 us) vs else 0
theorem cgA_ok {m s nx:List (List Int)} {x:Int} {a:Int×Int} {us vs:List Int} (h:cgA m s nx x a us vs=true):(prQ m s nx x).2=false∧ratioB a=true∧reqsB s.length us∧us.length≤60∧reqsB s.length vs∧vs.length≤6∧1≤vs.length:=by
  unfold cgA ipO at h
  simp only [Bool.and_eq_true,Bool.not_eq_true'] at h
  obtain ⟨⟨h1,h2⟩,h3,h4,h5⟩:=h
  have k1:=seq_reqs h3
  have k2:=seq_reqs h4
  have k3:=rng_iff.1 h5
  exact ⟨h1,h2,k1.1,k1.2,k2.1,by omega,by omega⟩
set_option maxHeartbeats 2000000 in
theorem impl_CycleGain_d (m s nx:List (List Int)) (x:Int) (a:Int×Int) (us vs:List Int):Does Tryz.prog 35 [prA m s,.sl (.ii nx),.int x,frA a,.sl (.ints us),.sl (.ints vs)] (.imm (.tup [.one (.b (.val (.int .i64 (cgV m s nx x a us vs)))),.one (.b (.val (.bool (cgB m s nx x a us vs))))])):=by
  have hP:=pairsOf_h m s nx x
  unfold cgV
  cases hq:(prQ m s nx x).2
  · have hF:=prQ_full hq
    rw [show prR (prQ m s nx x) = .tup [.one (.ptr 0 0),.one (.b (.val (.bool true)))] by unfold prR;rw [hq];rfl,show prO s.length (prQ m s nx x)=[.box [.own 1,.own 2,.b (.val (.int .i64 s.length))],.row 36 (.k 2 (prQ m s nx x).1.list),.row 93 (.k 4 (egs (prQ m s nx x).1.rows))] by unfold prO;rw [hq];rfl] at hP
    have e1:ipO m s nx x a=ratioB a:=by unfold ipO;rw [hq];rfl
    cases hA:cgA m s nx x a us vs
    · have hB:cgB m s nx x a us vs=false:=by unfold cgB;rw [hA];rfl
      rw [hB]
      unfold cgA at hA
      rw [e1] at hA
      refine spec_imm Tryz.func35 rfl Tryz.ntmps35 cfOK (fun _ _=>by kernel_rfl) rfl (Nat.le_of_ble_eq_true rfl) ?_
      intro M0 w0
      rw [Tryz.results35]
      (refine awp_fits 5 rfl fun hf => ?_;simp only [xp,simprocAttr] at hf;simp only [xf,simprocAttr] at hf)
      refine amGo ?_
      (refine .inr (.inl (callW_a [] (hP) rfl rfl rfl rfl trivial rfl rfl rfl rfl ?_));refine amC ?_)
      refine amGo ?_
      ((try refine Or.inl ?_);refine ⟨_,(isRatio_d a),.inl rfl,?_⟩;refine amC ?_)
      refine amGo ?_
      ((try refine Or.inl ?_);refine ⟨_,(fun _=>isSequence_d m s us),.inl rfl,?_⟩;refine amC ?_)
      refine amGo ?_
      ((try refine Or.inl ?_);refine ⟨_,(fun _=>isSequence_d m s vs),.inl rfl,?_⟩;refine amC ?_)
      refine amGo ?_
      ((try refine Or.inl ?_);refine ⟨_,(fun _=>within_d _ _ _),.inl rfl,?_⟩;refine amC ?_)
      refine amGo ?_
      refine awp_cond amQ (fun hr => ?_) (fun hr => ?_)
      · refine amGo ?_
        (simp only [xe,simprocAttr];refine ⟨[_,_],⟨rfl,rfl,trivial⟩,rfl,Imp.eq ?_⟩)
        rfl
      · revert hr hA
        cases ratioB a<;>cases seqB s.length us<;>cases seqB s.length vs<;>cases rng vs.length 1 6<;>simp
    · obtain ⟨_,hra,k1,k2,k3,k4,k5⟩:=cgA_ok hA
      have hG:=gn_ok hF hra
      have hpos:=hF.pos
      have hB:cgB m s nx x a us vs=decide ((afterE (egs (prQ m s nx x).1.rows) s.length (afterE (egs (prQ m s nx x).1.rows) s.length 0 us) vs:Int)=(afterE (egs (prQ m s nx x).1.rows) s.length 0 us:Int)):=by unfold cgB;rw [hA];rfl
      rw [hB]
      unfold cgA at hA
      rw [e1] at hA
      generalize (prQ m s nx x).1=g at hP hF hG hpos
      have hE:=ed_ok hF
      have hlt:=(walk_wk hF us 0 hpos k1).2
      have h1:=after_d (L:=g.list) hE (p:=0) hpos k1 (by omega)
      have h2:=after_d (L:=g.list) hE hlt k3 (by omega)
      have h3:=cycleGain_d (L:=g.list) hE hG hlt k3 (by omega)
      generalize afterE (egs g.rows) s.length 0 us=p at *
      refine spec_imm Tryz.func35 rfl Tryz.ntmps35 cfOK (fun _ _=>by kernel_rfl) rfl (Nat.le_of_ble_eq_true rfl) ?_
      intro M0 w0
      rw [Tryz.results35]
      (refine awp_fits 5 rfl fun hf => ?_;simp only [xp,simprocAttr] at hf;simp only [xf,simprocAttr] at hf)
      refine amGo ?_
      (refine .inr (.inl (callW_a [] (hP) rfl rfl rfl rfl trivial rfl rfl rfl rfl ?_));refine amC ?_)
      refine amGo ?_
      ((try refine Or.inl ?_);refine ⟨_,(isRatio_d a),.inl rfl,?_⟩;refine amC ?_)
      refine amGo ?_
      ((try refine Or.inl ?_);refine ⟨_,(fun _=>isSequence_d m s us),.inl rfl,?_⟩;refine amC ?_)
      refine amGo ?_
      ((try refine Or.inl ?_);refine ⟨_,(fun _=>isSequence_d m s vs),.inl rfl,?_⟩;refine amC ?_)
      refine amGo ?_
      ((try refine Or.inl ?_);refine ⟨_,(fun _=>within_d _ _ _),.inl rfl,?_⟩;refine amC ?_)
      refine amGo ?_
      refine awp_cond amQ (fun hr => ?_) (fun hr => ?_)
      · revert hr hA
        cases ratioB a<;>cases seqB s.length us<;>cases seqB s.length vs<;>cases rng vs.length 1 6<;>simp
      refine amGo ?_
      ((try refine Or.inl ?_);refine ⟨_,(h1),.inl rfl,?_⟩;refine amC ?_)
      refine amGo ?_
      ((try refine Or.inl ?_);refine ⟨_,(h2),.inl rfl,?_⟩;refine amC ?_)
      refine amGo ?_
      refine awp_cond amQ (fun hz => ?_) (fun hz => ?_)
      · have hz:¬ ((afterE (egs g.rows) s.length p vs:Int)=(p:Int)):=by simpa using hz
        rw [decide_eq_false hz]
        refine amGo ?_
        (simp only [xe,simprocAttr];refine ⟨[_,_],⟨rfl,rfl,trivial⟩,rfl,Imp.eq ?_⟩)
        rfl
      · have hz:(afterE (egs g.rows) s.length p vs:Int)=(p:Int):=by simpa using hz
        rw [decide_eq_true hz]
        refine amGo ?_
        ((try refine Or.inl ?_);refine ⟨_,(h3),.inl rfl,?_⟩;refine amC ?_)
        refine amGo ?_
        (simp only [xe,simprocAttr];refine ⟨[_,_],⟨rfl,rfl,trivial⟩,rfl,Imp.eq ?_⟩)
        rfl
  · rw [show prR (prQ m s nx x) = .tup [.one (.b (.val (.pointer none))),.one (.b (.val (.bool false)))] by unfold prR;rw [hq];rfl,show prO s.length (prQ m s nx x)=[] by unfold prO;rw [hq];rfl] at hP
    have hA:cgA m s nx x a us vs=false:=by unfold cgA ipO;rw [hq];rfl
    have hB:cgB m s nx x a us vs=false:=by unfold cgB;rw [hA];rfl
    rw [hB]
    refine spec_imm Tryz.func35 rfl Tryz.ntmps35 cfOK (fun _ _=>by kernel_rfl) rfl (Nat.le_of_ble_eq_true rfl) ?_
    intro M0 w0
    rw [Tryz.results35]
    (refine awp_fits 5 rfl fun hf => ?_;simp only [xp,simprocAttr] at hf;simp only [xf,simprocAttr] at hf)
    refine amGo ?_
    (refine .inr (.inl (callW_a [] (hP) rfl rfl rfl rfl trivial rfl rfl rfl rfl ?_));refine amC ?_)
    refine amGo ?_
    (refine .inr (.inr (callW_gf (.bool false) (by first | rfl | (simp only [xr,simprocAttr];done)) rfl ?_));refine amC ?_)
    refine amGo ?_
    (refine .inr (.inr (callW_gf (.bool false) (by first | rfl | (simp only [xr,simprocAttr];done)) rfl ?_));refine amC ?_)
    refine amGo ?_
    (refine .inr (.inr (callW_gf (.bool false) (by first | rfl | (simp only [xr,simprocAttr];done)) rfl ?_));refine amC ?_)
    refine amGo ?_
    (refine .inr (.inr (callW_gf (.bool false) (by first | rfl | (simp only [xr,simprocAttr];done)) rfl ?_));refine amC ?_)
    refine amGo ?_
    refine awp_cond amQ (fun hr => ?_) (fun hr => ?_)
    · refine amGo ?_
      (simp only [xe,simprocAttr];refine ⟨[_,_],⟨rfl,rfl,trivial⟩,rfl,Imp.eq ?_⟩)
      rfl
    · simp at hr
set_option maxHeartbeats 4000000 in
theorem spec_CycleGain_d (m s nx:List (List Int)) (x:Int) (a:Int×Int) (us vs:List Int):Does Tryz.prog 36 [prA m s,.sl (.ii nx),.int x,frA a,.sl (.ints us),.sl (.ints vs)] (.imm (.tup [.one (.b (.val (.int .i64 (cgV m s nx x a us vs)))),.one (.b (.val (.bool (cgB m s nx x a us vs))))])):=by
  have hG:=l9Get_d m s nx x
  unfold cgV
  cases hq:(prQ m s nx x).2
  · have hF:=prQ_full hq
    have hk:(takesB m s x [] && algB m s nx)=true:=by
      cases h:(takesB m s x [] && algB m s nx)
      · rw [prQ_bad h] at hq;cases hq
      · rfl
    have htk:∀ ws,takesB m s x ws=seqB s.length ws:=fun ws=>by
      rw [Bool.and_eq_true] at hk
      have h1:=hk.1
      unfold takesB at h1 ⊢
      simp only [Bool.and_eq_true] at h1
      rw [h1.1.1,h1.1.2]
      rfl
    rw [hk] at hG
    have hG:Does Tryz.prog 49 [prA m s,.sl (.ii nx),.int x] (.imm (.tup [.agg [.b (.sl (.k 2 (prQ m s nx x).1.list)),.b (.sl (.ki 3 (eg3 (prQ m s nx x).1.rows))),.b (.val (.bool false))],.one (.b (.val (.bool true)))])):=by
      have hG2:=hG
      unfold prAv at hG2
      rw [hq] at hG2
      exact hG2
    have e1:ipO m s nx x a=ratioB a:=by unfold ipO;rw [hq];rfl
    cases hA:cgA m s nx x a us vs
    · have hB:cgB m s nx x a us vs=false:=by unfold cgB;rw [hA];rfl
      rw [hB]
      unfold cgA at hA
      rw [e1] at hA
      refine spec_imm Tryz.func36 rfl Tryz.ntmps36 cfOK (fun _ _=>by kernel_rfl) rfl (Nat.le_of_ble_eq_true rfl) ?_
      intro M0 w0
      rw [Tryz.results36]
      (refine awp_fits 5 rfl fun hf => ?_;simp only [xp,simprocAttr] at hf;simp only [xf,simprocAttr] at hf)
      refine amGo ?_
      ((try refine Or.inl ?_);refine ⟨_,(hG),amF,?_⟩;refine amC ?_)
      refine amGo ?_
      ((try refine Or.inl ?_);refine ⟨_,(l9Ratio_d a),.inl rfl,?_⟩;refine amC ?_)
      refine amGo ?_
      ((try refine Or.inl ?_);refine ⟨_,(fun _=>l1In_d _ _ _),.inl rfl,?_⟩;refine amC ?_)
      refine amGo ?_
      ((try refine Or.inl ?_);refine ⟨_,(fun _=>l8Takes_d m s x us),.inl rfl,?_⟩;refine amC ?_)
      refine amGo ?_
      ((try refine Or.inl ?_);refine ⟨_,(fun _=>l8Takes_d m s x vs),.inl rfl,?_⟩;refine amC ?_)
      rw [htk,htk]
      refine amGo ?_
      refine awp_cond amQ (fun hr => ?_) (fun hr => ?_)
      · refine amGo ?_
        (simp only [xe,simprocAttr];refine ⟨[_,_],⟨rfl,rfl,trivial⟩,rfl,Imp.eq ?_⟩)
        rfl
      · revert hr hA
        cases ratioB a<;>cases seqB s.length us<;>cases seqB s.length vs<;>cases rng vs.length 1 6<;>simp
    · obtain ⟨_,hra,k1,k2,k3,k4,k5⟩:=cgA_ok hA
      obtain ⟨r1,r2,r3,r4⟩:=ratio_ok hra
      have hpos:=hF.pos
      have hB:cgB m s nx x a us vs=decide ((afterE (egs (prQ m s nx x).1.rows) s.length (afterE (egs (prQ m s nx x).1.rows) s.length 0 us) vs:Int)=(afterE (egs (prQ m s nx x).1.rows) s.length 0 us:Int)):=by unfold cgB;rw [hA];rfl
      rw [hB]
      unfold cgA at hA
      rw [e1] at hA
      generalize (prQ m s nx x).1=g at hG hF hpos
      have hlt:=(walk_wk hF us 0 hpos k1).2
      have h1:=l9After_d hF (p:=0) hpos k1 (by omega)
      have h2:=l9After_d hF hlt k3 (by omega)
      have h3:=l9Sums_d hF hlt k3 (by omega)
      have h4:=walk_bd hF hlt k3 (by omega)
      have h5:gainE a (egs g.rows) s.length (afterE (egs g.rows) s.length 0 us) vs=a.2*sumE cstE (walkE (egs g.rows) s.length (afterE (egs g.rows) s.length 0 us) vs)-a.1*sumE grwE (walkE (egs g.rows) s.length (afterE (egs g.rows) s.length 0 us) vs):=by rw [gain_walk,sum_wtR]
      rw [h5]
      generalize afterE (egs g.rows) s.length 0 us=p at *
      generalize sumE cstE (walkE (egs g.rows) s.length p vs)=C at *
      generalize sumE grwE (walkE (egs g.rows) s.length p vs)=G at *
      have b1:=mul_bd (x:=a.2) (y:=C) (X:=100000000) (Y:=119000) ⟨by omega,by omega⟩ ⟨by omega,by omega⟩
      have b2:=mul_bd (x:=a.1) (y:=G) (X:=100000000) (Y:=119000) ⟨by omega,by omega⟩ ⟨by omega,by omega⟩
      obtain ⟨a,b⟩:=a
      dsimp only at b1 b2
      refine spec_imm Tryz.func36 rfl Tryz.ntmps36 cfOK (fun _ _=>by kernel_rfl) rfl (Nat.le_of_ble_eq_true rfl) ?_
      intro M0 w0
      rw [Tryz.results36]
      (refine awp_fits 5 rfl fun hf => ?_;simp only [xp,simprocAttr] at hf;simp only [xf,simprocAttr] at hf)
      refine amGo ?_
      ((try refine Or.inl ?_);refine ⟨_,(hG),amF,?_⟩;refine amC ?_)
      refine amGo ?_
      ((try refine Or.inl ?_);refine ⟨_,(l9Ratio_d (a,b)),.inl rfl,?_⟩;refine amC ?_)
      refine amGo ?_
      ((try refine Or.inl ?_);refine ⟨_,(fun _=>l1In_d _ _ _),.inl rfl,?_⟩;refine amC ?_)
      refine amGo ?_
      ((try refine Or.inl ?_);refine ⟨_,(fun _=>l8Takes_d m s x us),.inl rfl,?_⟩;refine amC ?_)
      refine amGo ?_
      ((try refine Or.inl ?_);refine ⟨_,(fun _=>l8Takes_d m s x vs),.inl rfl,?_⟩;refine amC ?_)
      rw [htk,htk]
      refine amGo ?_
      refine awp_cond amQ (fun hr => ?_) (fun hr => ?_)
      · revert hr hA
        cases ratioB (a,b)<;>cases seqB s.length us<;>cases seqB s.length vs<;>cases rng vs.length 1 6<;>simp
      refine amGo ?_
      ((try refine Or.inl ?_);refine ⟨_,(h1),.inl rfl,?_⟩;refine amC ?_)
      refine amGo ?_
      ((try refine Or.inl ?_);refine ⟨_,(h2),.inl rfl,?_⟩;refine amC ?_)
      refine amGo ?_
      refine awp_cond amQ (fun hz => ?_) (fun hz => ?_)
      · have hz:¬ ((afterE (egs g.rows) s.length p vs:Int)=(p:Int)):=by simpa using hz
        rw [decide_eq_false hz]
        refine amGo ?_
        (simp only [xe,simprocAttr];refine ⟨[_,_],⟨rfl,rfl,trivial⟩,rfl,Imp.eq ?_⟩)
        rfl
      · have hz:(afterE (egs g.rows) s.length p vs:Int)=(p:Int):=by simpa using hz
        rw [decide_eq_true hz]
        refine amGo ?_
        ((try refine Or.inl ?_);refine ⟨_,(h3),.inl rfl,?_⟩;refine amC ?_)
        refine amGo ?_
        (simp only [xe,simprocAttr];refine ⟨[_,_],⟨rfl,rfl,trivial⟩,rfl,Imp.eq ?_⟩)
        rfl
  · have hA:cgA m s nx x a us vs=false:=by unfold cgA ipO;rw [hq];rfl
    have hB:cgB m s nx x a us vs=false:=by unfold cgB;rw [hA];rfl
    rw [hB]
    rw [hq] at hG
    cases hk:(takesB m s x [] && algB m s nx)
    · rw [hk] at hG
      have hG:Does Tryz.prog 49 [prA m s,.sl (.ii nx),.int x] (.imm (.tup [.agg [.b (.val (.slice none 0 0)),.b (.val (.slice none 0 0)),.b (.val (.bool false))],.one (.b (.val (.bool false)))])):=hG
      refine spec_imm Tryz.func36 rfl Tryz.ntmps36 cfOK (fun _ _=>by kernel_rfl) rfl (Nat.le_of_ble_eq_true rfl) ?_
      intro M0 w0
      rw [Tryz.results36]
      (refine awp_fits 5 rfl fun hf => ?_;simp only [xp,simprocAttr] at hf;simp only [xf,simprocAttr] at hf)
      refine amGo ?_
      ((try refine Or.inl ?_);refine ⟨_,(hG),amF,?_⟩;refine amC ?_)
      refine amGo ?_
      (refine .inr (.inr (callW_gf (.bool false) (by first | rfl | (simp only [xr,simprocAttr];done)) rfl ?_));refine amC ?_)
      refine amGo ?_
      (refine .inr (.inr (callW_gf (.bool false) (by first | rfl | (simp only [xr,simprocAttr];done)) rfl ?_));refine amC ?_)
      refine amGo ?_
      (refine .inr (.inr (callW_gf (.bool false) (by first | rfl | (simp only [xr,simprocAttr];done)) rfl ?_));refine amC ?_)
      refine amGo ?_
      (refine .inr (.inr (callW_gf (.bool false) (by first | rfl | (simp only [xr,simprocAttr];done)) rfl ?_));refine amC ?_)
      refine amGo ?_
      refine awp_cond amQ (fun hr => ?_) (fun hr => ?_)
      · refine amGo ?_
        (simp only [xe,simprocAttr];refine ⟨[_,_],⟨rfl,rfl,trivial⟩,rfl,Imp.eq ?_⟩)
        rfl
      · simp at hr
    · rw [hk] at hG
      have hG:Does Tryz.prog 49 [prA m s,.sl (.ii nx),.int x] (.imm (.tup [.agg [.b (.sl (.k 2 (prQ m s nx x).1.list)),.b (.sl (.ki 3 (eg3 (prQ m s nx x).1.rows))),.b (.val (.bool true))],.one (.b (.val (.bool false)))])):=by
        have hG2:=hG
        unfold prAv at hG2
        rw [hq] at hG2
        exact hG2
      refine spec_imm Tryz.func36 rfl Tryz.ntmps36 cfOK (fun _ _=>by kernel_rfl) rfl (Nat.le_of_ble_eq_true rfl) ?_
      intro M0 w0
      rw [Tryz.results36]
      (refine awp_fits 5 rfl fun hf => ?_;simp only [xp,simprocAttr] at hf;simp only [xf,simprocAttr] at hf)
      refine amGo ?_
      ((try refine Or.inl ?_);refine ⟨_,(hG),amF,?_⟩;refine amC ?_)
      refine amGo ?_
      (refine .inr (.inr (callW_gf (.bool false) (by first | rfl | (simp only [xr,simprocAttr];done)) rfl ?_));refine amC ?_)
      refine amGo ?_
      (refine .inr (.inr (callW_gf (.bool false) (by first | rfl | (simp only [xr,simprocAttr];done)) rfl ?_));refine amC ?_)
      refine amGo ?_
      (refine .inr (.inr (callW_gf (.bool false) (by first | rfl | (simp only [xr,simprocAttr];done)) rfl ?_));refine amC ?_)
      refine amGo ?_
      (refine .inr (.inr (callW_gf (.bool false) (by first | rfl | (simp only [xr,simprocAttr];done)) rfl ?_));refine amC ?_)
      refine amGo ?_
      refine awp_cond amQ (fun hr => ?_) (fun hr => ?_)
      · refine amGo ?_
        (simp only [xe,simprocAttr];refine ⟨[_,_],⟨rfl,rfl,trivial⟩,rfl,Imp.eq ?_⟩)
        rfl
      · simp at hr
end Go.Proofs.YtlhdeofkhajigaaGreat
