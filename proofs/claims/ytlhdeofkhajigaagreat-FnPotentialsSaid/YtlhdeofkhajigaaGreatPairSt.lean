/- PairSteps of the program and of the reference, on the machine. Conditions: those that each names. -/
import Derived.Test.YtlhdeofkhajigaaGreatGraph
import Derived.Test.YtlhdeofkhajigaaGreatPR
import Derived.Test.YtlhdeofkhajigaaGreatGAX
set_option linter.all false
set_option linter.unusedSimpArgs false
set_option linter.unusedVariables false
namespace Go.Proofs.YtlhdeofkhajigaaGreat
open Go Go.RowKit Am

def psB (m s nx:List (List Int)) (x:Int):Bool := !(prQ m s nx x).2
def psV (m s nx:List (List Int)) (x:Int):List (List (List Int)):=eg3 (prQ m s nx x).1.rows
/-- the first k edges are put to their pairs -/
def psA (N:Nat) (es:List (List Int)) (k:Nat):List (List (List Int)):=(es.take k).foldl ptN (List.replicate N [])
theorem psA_len (N:Nat) (es:List (List Int)) (k:Nat):(psA N es k).length=N:=by simp [psA,ptF_len]
theorem psA_next {N:Nat} {es:List (List Int)} {k:Nat} (hk:k<es.length):psA N es (k+1)=ptN (psA N es k) (es.getD k []):=by
  unfold psA
  rw [List.take_succ_eq_append_getElem hk,List.foldl_append,getD_in hk]
  rfl
theorem psA_all {m s:List (List Int)} {g:PrT} (hF:PrFull m s g):psA g.list.length (egs g.rows) (egs g.rows).length=eg3 g.rows:=by
  unfold psA
  rw [List.take_length,← hF.rlen]
  refine ptS_all fun j hj c hc => ?_
  obtain ⟨t,co,gr,rfl,_⟩:=hF.eg j hj c hc
  rfl
theorem psA_row (N:Nat) (es:List (List Int)) (i:Nat):∀ k,k≤es.length→((psA N es k).getD i []).length≤k
  | 0,_=>by
    have:(psA N es 0).getD i []=[]:=by
      simp only [psA,List.take_zero,List.foldl_nil,List.getD_eq_getElem?_getD,List.getElem?_replicate]
      split<;>rfl
    rw [this]
    exact Nat.le_refl _
  | k+1,hk=>by
    have ih:=psA_row N es i k (by omega)
    rw [psA_next (by omega)]
    unfold ptN
    rw [List.getD_eq_getElem?_getD,List.getElem?_set]
    split
    · split
      · rename_i h1 _
        rw [Option.getD_some,List.length_append,h1]
        simpa using ih
      · simp
    · rw [← List.getD_eq_getElem?_getD]
      omega
theorem psE {m s:List (List Int)} {g:PrT} (hF:PrFull m s g) {k:Nat} (hk:k<(egs g.rows).length):∃ (i t:Nat) (a b:Int),(egs g.rows).getD k []=[(i:Int),(t:Int),a,b]∧i<g.list.length∧t<g.list.length:=by
  have h1:(egs g.rows).getD k []∈g.rows.flatten:=by
    rw [getD_in hk]
    exact List.getElem_mem hk
  obtain ⟨row,h2,h3⟩:=List.mem_flatten.1 h1
  obtain ⟨j,hj,rfl⟩:=List.getElem_of_mem h2
  obtain ⟨t,a,b,h4,h5,_⟩:=hF.eg j hj _ (by rw [getD_in hj];exact h3)
  exact ⟨j,t,a,b,h4,by rw [← hF.rlen];exact hj,h5⟩
set_option maxHeartbeats 2000000 in
theorem impl_PairSteps_h (m s nx:List (List Int)) (x:Int) (hb:psB m s nx x=true):DoesH Tryz.prog 13 [prA m s,.sl (.ii nx),.int x] [] [] (.tup [.one (.own 0),.one (.b (.val (.bool true)))]) [.tree [42,43] (.ki 3 (psV m s nx x))]:=by
  have hP:=pairsOf_h m s nx x
  have hq:(prQ m s nx x).2=false:=by simpa [psB] using hb
  have hF:=prQ_full hq
  rw [show prR (prQ m s nx x) = .tup [.one (.ptr 0 0),.one (.b (.val (.bool true)))] by unfold prR;rw [hq];rfl,show prO s.length (prQ m s nx x)=[.box [.own 1,.own 2,.b (.val (.int .i64 s.length))],.row 36 (.k 2 (prQ m s nx x).1.list),.row 93 (.k 4 (egs (prQ m s nx x).1.rows))] by unfold prO;rw [hq];rfl] at hP
  unfold psV
  generalize (prQ m s nx x).1=g at hP hF
  have hle:=hF.le
  have hpl:=prob_len hF.prob
  rw [← psA_all hF]
  have hel:(egs g.rows).length≤3000:=by
    rw [egs_len hF.row,hF.rlen]
    have:g.list.length*s.length≤600*4:=Nat.mul_le_mul hle (by omega)
    omega
  refine spec_hB Tryz.func13 rfl Tryz.ntmps13 cfOK (fun _ _=>by kernel_rfl) rfl rfl rfl ?_
  intro M0 w0 S φ0
  rw [Tryz.results13]
  refine amGo ?_
  (refine .inr (.inl (callW_a [] (hP) rfl rfl rfl rfl trivial rfl rfl rfl rfl ?_));refine amC ?_)
  refine amGo ?_
  refine awp_cond amQ (fun hr => ?_) (fun hr => ?_)
  · simp at hr
  refine amGo ?_
  refine awp_rounds (α:=Nat) (fun k=>[(33,true,.int k)]) [3,8,9,10,31,32] (fun k=>[.box [.b (.sl (.ii m)),.b (.sl (.ii s))],.box [.own 2,.own 3,.b (.val (.int .i64 s.length))],.row 36 (.k 2 g.list),.row 93 (.k 4 (egs g.rows)),.tree [42,43] (.ki 3 (psA g.list.length (egs g.rows) k))]) (fun k=>k≤(egs g.rows).length) (fun k=>(egs g.rows).length-k) 0 (by ((try simp only [xk]);(repeat (refine leK_cons ?_ ?_;first | (exact amE) | rotate_left));(refine leK_nil ?_;exact (by rfl));(all_goals (try (simp only [xr,simprocAttr];try refine int_eq1 ?_))))) (Nat.zero_le _) fun k hk => ?_
  have hpl2:=psA_len g.list.length (egs g.rows) k
  simp only [xr,simprocAttr]
  refine amGo ?_
  refine awp_cond amQ (fun hc => ?_) (fun hc => ?_)
  · have hc:=of_decide_eq_true hc
    have hk':k<(egs g.rows).length:=by omega
    obtain ⟨i,t,co,gr,he,hi,ht⟩:=psE hF hk'
    have hnx:=psA_next (N:=g.list.length) hk'
    have hrow:=psA_row g.list.length (egs g.rows) i k hk
    refine amGo ?_
    rw [he] at hnx ⊢
    simp only [xr,simprocAttr]
    (refine awp_foc 4 (i) rfl amT ?_;simp only [xr,simprocAttr])
    (refine amB ?_;refine awp_anyG 1 [(16,[7,6]),(18,[4,7])] [7,6] [(16,[]),(18,[])] ?_;refine amNG ?_)
    refine amGo ?_
    refine ⟨k+1,by omega,by omega,.inr ⟨5,Nat.le_of_ble_eq_true rfl,leT_of ?_ rfl rfl rfl⟩⟩
    ((try simp only [xk]);(repeat (refine leK_cons ?_ ?_;first | (exact amE) | rotate_left));(refine leK_nil ?_;exact (by rw [hnx];rfl));(all_goals (try (simp only [xr,simprocAttr];try refine int_eq1 ?_))))
  · have hc:=of_decide_eq_false hc
    obtain rfl:k=(egs g.rows).length:=by omega
    refine amGo ?_
    (simp only [ends_normal,ends_ret];refine retH_2 (vs:=[_,_]) [4] rfl ⟨rfl,trivial⟩ rfl rfl rfl rfl ⟨rfl,rfl,trivial⟩ ?_;try rfl)
theorem impl_PairSteps_i (m s nx:List (List Int)) (x:Int) (hb:psB m s nx x=true):Does Tryz.prog 13 [prA m s,.sl (.ii nx),.int x] (.imm (.tup [.one (.b (.sl (.ki 3 (psV m s nx x)))),.one (.b (.val (.bool true)))])):=imm_of (impl_PairSteps_h m s nx x hb)
theorem impl_PairSteps_0 (m s nx:List (List Int)) (x:Int) (hb:psB m s nx x=false):Does Tryz.prog 13 [prA m s,.sl (.ii nx),.int x] (.imm (.tup [.one (.b (.val (.slice none 0 0))),.one (.b (.val (.bool false)))])):=by
  have hP:=pairsOf_h m s nx x
  have hq:(prQ m s nx x).2=true:=by simpa [psB] using hb
  rw [show prR (prQ m s nx x) = .tup [.one (.b (.val (.pointer none))),.one (.b (.val (.bool false)))] by unfold prR;rw [hq];rfl,show prO s.length (prQ m s nx x)=[] by unfold prO;rw [hq];rfl] at hP
  refine spec_imm Tryz.func13 rfl Tryz.ntmps13 cfOK (fun _ _=>by kernel_rfl) rfl (Nat.le_of_ble_eq_true rfl) ?_
  intro M0 w0
  rw [Tryz.results13]
  refine amGo ?_
  (refine .inr (.inl (callW_a [] (hP) rfl rfl rfl rfl trivial rfl rfl rfl rfl ?_));refine amC ?_)
  refine amGo ?_
  refine awp_cond amQ (fun hr => ?_) (fun hr => ?_)
  · refine amGo ?_
    (simp only [xe,simprocAttr];refine ⟨[_,_],⟨rfl,rfl,trivial⟩,rfl,Imp.eq ?_⟩)
    rfl
  · simp at hr
theorem c3_at2 (g:PrT) {i r:Nat} (hi:i<g.rows.length) (hr:r<(g.rows.getD i []).length):((eg3 g.rows).getD i []).getD r []=c3 ((g.rows.getD i []).getD r []):=by
  unfold eg3
  rw [List.getD_eq_getElem?_getD,List.getD_eq_getElem?_getD,List.getElem?_map,List.getElem?_eq_getElem hi]
  simp only [Option.map_some,Option.getD_some,List.getElem?_map]
  rw [getD_in hi] at hr ⊢
  rw [List.getElem?_eq_getElem hr,getD_in hr]
  rfl
theorem eg3_row (g:PrT) (i:Nat):((eg3 g.rows).getD i []).length=(g.rows.getD i []).length:=by
  unfold eg3
  rw [List.getD_eq_getElem?_getD,List.getD_eq_getElem?_getD,List.getElem?_map]
  cases g.rows[i]? <;> simp
set_option maxHeartbeats 2000000 in
theorem spec_PairSteps_d (m s nx:List (List Int)) (x:Int):Does Tryz.prog 14 [prA m s,.sl (.ii nx),.int x] (.imm (.tup [.one (.b (.sl (.ki 3 (if psB m s nx x=true then psV m s nx x else [])))),.one (.b (.val (.bool (psB m s nx x))))])):=by
  have hG:=l9Get_d m s nx x
  unfold psB psV
  cases hq:(prQ m s nx x).2
  · have hF:=prQ_full hq
    have htk:(takesB m s x [] && algB m s nx)=true:=by
      cases h:(takesB m s x [] && algB m s nx)
      · rw [prQ_bad h] at hq;cases hq
      · rfl
    rw [htk] at hG
    unfold prAv at hG
    simp only [hq,cond_true,Bool.not_false] at hG ⊢
    rw [if_pos trivial]
    generalize (prQ m s nx x).1=g at hG hF
    have hle:=hF.le
    have hrl:=hF.rlen
    have hpl:=prob_len hF.prob
    have hel:(eg3 g.rows).length=g.rows.length:=by simp [eg3]
    refine spec_imm Tryz.func14 rfl Tryz.ntmps14 cfOK (fun _ _=>by kernel_rfl) rfl (Nat.le_of_ble_eq_true rfl) ?_
    intro M0 w0
    rw [Tryz.results14]
    refine amGo ?_
    ((try refine Or.inl ?_);refine ⟨_,(hG),amF,?_⟩;refine amC ?_)
    refine amGo ?_
    refine awp_cond amQ (fun hr => ?_) (fun hr => ?_)
    · simp at hr
    refine amGo ?_
    refine awp_rounds (α:=Nat) (fun i=>[(11,true,.int i)]) [3,8,9,10] (fun i=>[.box [.b (.sl (.ii m)),.b (.sl (.ii s))],.row 42 (.ki 3 ((eg3 g.rows).take i)),.box [.b (.sl (.k 2 g.list)),.b (.sl (.ki 3 (eg3 g.rows))),.b (.val (.bool false))]]) (fun i=>i≤g.rows.length) (fun i=>g.rows.length-i) 0 (by ((try simp only [xk]);(repeat (refine leK_cons ?_ ?_;first | (exact amE) | rotate_left));(refine leK_nil ?_;exact (by rfl));(all_goals (try (simp only [xr,simprocAttr];try refine int_eq1 ?_))))) (Nat.zero_le _) fun i hi => ?_
    have htl:((eg3 g.rows).take i).length≤i:=by rw [List.length_take];omega
    simp only [xr,simprocAttr]
    refine amGo ?_
    refine awp_cond amQ (fun hc => ?_) (fun hc => ?_)
    · have hc:=of_decide_eq_true hc
      have hi':i<g.rows.length:=by omega
      have hrw:((eg3 g.rows).getD i []).length=s.length:=by rw [eg3_row];exact hF.row i hi'
      have htk2:(eg3 g.rows).take (i+1)=(eg3 g.rows).take i++[(eg3 g.rows).getD i []]:=take_getD (by omega) []
      refine amGo ?_
      refine awp_rounds (α:=Nat) (fun r=>[(13,true,.int r)]) [3,8,9,10,11,12] (fun r=>[.box [.b (.sl (.ii m)),.b (.sl (.ii s))],.row 42 (.ki 3 ((eg3 g.rows).take i)),.box [.b (.sl (.k 2 g.list)),.b (.sl (.ki 3 (eg3 g.rows))),.b (.val (.bool false))],.row 43 (.k 3 (((eg3 g.rows).getD i []).take r))]) (fun r=>r≤s.length) (fun r=>s.length-r) 0 (by ((try simp only [xk]);(repeat (refine leK_cons ?_ ?_;first | (exact amE) | rotate_left));(refine leK_nil ?_;exact (by rfl));(all_goals (try (simp only [xr,simprocAttr];try refine int_eq1 ?_))))) (Nat.zero_le _) fun r hr => ?_
      have htl2:(((eg3 g.rows).getD i []).take r).length≤r:=by rw [List.length_take];omega
      simp only [xr,simprocAttr]
      refine amGo ?_
      refine awp_cond amQ (fun hd => ?_) (fun hd => ?_)
      · have hd:=of_decide_eq_true hd
        have hr':r<s.length:=by omega
        have htk3:((eg3 g.rows).getD i []).take (r+1)=((eg3 g.rows).getD i []).take r++[((eg3 g.rows).getD i []).getD r []]:=take_getD (by omega) []
        have h3:=c3_at2 g hi' (r:=r) (by have:=hF.row i hi';omega)
        refine amGo ?_
        (refine amB ?_;refine awp_anyM [3] 30 [] (by kernel_rfl) (by kernel_rfl) (by kernel_rfl) (by kernel_rfl) (by kernel_rfl) ?_;refine amM ?_)
        refine amB ?_
        (refine awp_mv 3 4 rfl rfl (by decide) rfl rfl ?_;simp only [xm,simprocAttr])
        refine amGo ?_
        refine ⟨r+1,by omega,by omega,.inr ⟨4,Nat.le_of_ble_eq_true rfl,leT_of ?_ rfl rfl rfl⟩⟩
        ((try simp only [xk]);(repeat (refine leK_cons ?_ ?_;first | (exact amE) | rotate_left));(refine leK_nil ?_;exact (by rw [htk3,h3];rfl));(all_goals (try (simp only [xr,simprocAttr];try refine int_eq1 ?_))))
      · have hd:=of_decide_eq_false hd
        obtain rfl:r=s.length:=by omega
        have htk4:((eg3 g.rows).getD i []).take s.length=(eg3 g.rows).getD i []:=List.take_of_length_le (by omega)
        rw [htk4]
        refine amB ?_
        (refine awp_frz 3 rfl ?_;simp only [xz,simprocAttr])
        refine amGo ?_
        refine ⟨i+1,by omega,by omega,.inr ⟨3,Nat.le_of_ble_eq_true rfl,leT_of ?_ rfl rfl rfl⟩⟩
        ((try simp only [xk]);(repeat (refine leK_cons ?_ ?_;first | (exact amE) | rotate_left));(refine leK_nil ?_;exact (by rw [htk2];rfl));(all_goals (try (simp only [xr,simprocAttr];try refine int_eq1 ?_))))
    · have hc:=of_decide_eq_false hc
      obtain rfl:i=g.rows.length:=by omega
      have htk4:(eg3 g.rows).take g.rows.length=eg3 g.rows:=List.take_of_length_le (by omega)
      rw [htk4]
      refine amGoR ?_
      (refine awp_frz 1 rfl ?_;simp only [xz,simprocAttr])
      refine amGo ?_
      (simp only [xe,simprocAttr];refine ⟨[_,_],⟨rfl,rfl,trivial⟩,rfl,Imp.eq ?_⟩)
      rfl
  · rw [hq] at hG
    simp only [Bool.not_true,cond_true] at hG ⊢
    rw [if_neg (by decide)]
    cases htk:(takesB m s x [] && algB m s nx)
    · rw [htk] at hG
      simp only [cond_false] at hG
      refine spec_imm Tryz.func14 rfl Tryz.ntmps14 cfOK (fun _ _=>by kernel_rfl) rfl (Nat.le_of_ble_eq_true rfl) ?_
      intro M0 w0
      rw [Tryz.results14]
      refine amGo ?_
      ((try refine Or.inl ?_);refine ⟨_,(hG),amF,?_⟩;refine amC ?_)
      refine amGo ?_
      refine awp_cond amQ (fun hr => ?_) (fun hr => ?_)
      · refine amGoR ?_
        (refine awp_frz 1 rfl ?_;simp only [xz,simprocAttr])
        refine amGo ?_
        (simp only [xe,simprocAttr];refine ⟨[_,_],⟨rfl,rfl,trivial⟩,rfl,Imp.eq ?_⟩)
        rfl
      · simp at hr
    · rw [htk] at hG
      unfold prAv at hG
      simp only [hq,cond_true] at hG
      generalize (prQ m s nx x).1=g at hG
      refine spec_imm Tryz.func14 rfl Tryz.ntmps14 cfOK (fun _ _=>by kernel_rfl) rfl (Nat.le_of_ble_eq_true rfl) ?_
      intro M0 w0
      rw [Tryz.results14]
      refine amGo ?_
      ((try refine Or.inl ?_);refine ⟨_,(hG),amF,?_⟩;refine amC ?_)
      refine amGo ?_
      refine awp_cond amQ (fun hr => ?_) (fun hr => ?_)
      · refine amGoR ?_
        (refine awp_frz 1 rfl ?_;simp only [xz,simprocAttr])
        refine amGo ?_
        (simp only [xe,simprocAttr];refine ⟨[_,_],⟨rfl,rfl,trivial⟩,rfl,Imp.eq ?_⟩)
        rfl
      · simp at hr
end Go.Proofs.YtlhdeofkhajigaaGreat
