/- The law on cycles: what it calls, and its facts. Conditions: none. -/
import Derived.Test.YtlhdeofkhajigaaGreatGRX
import Derived.Test.YtlhdeofkhajigaaGreatCC
import Derived.Test.YtlhdeofkhajigaaGreatGLO
import Derived.Test.YtlhdeofkhajigaaGreatGRT
import Derived.Test.YtlhdeofkhajigaaGreatGAX
set_option linter.all false
set_option linter.unusedSimpArgs false
set_option linter.unusedVariables false
namespace Go.Proofs.YtlhdeofkhajigaaGreat
open Go Go.RowKit Am

noncomputable def ptT (m s nx:List (List Int)) (x:Int) (a:Int×Int):List Int×Bool:=match ptO m s nx x a with
  | none=>([],false)
  | some w=>(w,true)
section
variable {m s nx:List (List Int)} {x:Int} {a:Int×Int} {us vs:List Int}
theorem seqB_of {n:Nat} {rs:List Int} (h:reqsB n rs) (hl:rs.length≤60):seqB n rs=true:=by
  unfold seqB
  simp only [Bool.and_eq_true,decide_eq_true_eq]
  refine ⟨by omega,allIn_iff.2 fun r hr => ?_⟩
  have:=h r hr
  omega
theorem ac_ok (hq:(prQ m s nx x).2=false) {rs:List Int} (h:reqsB s.length rs) (hl:rs.length≤60):acB m s nx x rs=true∧takesB m s x rs=true:=by
  have hk:(takesB m s x [] && algB m s nx)=true:=by
    cases h:(takesB m s x [] && algB m s nx)
    · rw [prQ_bad h] at hq;cases hq
    · rfl
  rw [Bool.and_eq_true] at hk
  have h2:takesB m s x rs=true:=by
    have h1:=hk.1
    unfold takesB at h1 ⊢
    simp only [Bool.and_eq_true] at h1 ⊢
    exact ⟨h1.1,seqB_of h hl⟩
  exact ⟨by unfold acB;rw [h2,hk.2];rfl,h2⟩
theorem ac_bd (m s nx:List (List Int)) (x:Int) (rs:List Int):0≤acV m s nx x rs∧acV m s nx x rs≤10000:=by
  unfold acV
  cases ht:acB m s nx x rs
  · simp
  · unfold acB at ht
    rw [Bool.and_eq_true] at ht
    obtain ⟨hp,⟨k,rfl,hk⟩,hq,hl⟩:=takes_ok ht.1
    have:=costS_bd hp ht.2 rs k hk hq
    rw [Int.toNat_natCast]
    simp only [cond_true]
    omega
theorem lc_bd (m s:List (List Int)) (x:Int) (rs:List Int):0≤lcV m s x rs∧lcV m s x rs≤10000:=by
  unfold lcV
  cases ht:takesB m s x rs
  · simp
  · obtain ⟨hp,⟨k,rfl,hk⟩,hq,hl⟩:=takes_ok ht
    exact opt_bd hp hk hq hl
end
end Go.Proofs.YtlhdeofkhajigaaGreat
/- FindPotential and PairsOf of the reference, with results that may be turned, on the machine. Conditions: none. -/
set_option linter.all false
set_option linter.unusedSimpArgs false
set_option linter.unusedVariables false
namespace Go.Proofs.YtlhdeofkhajigaaGreat
open Go Go.RowKit Am

set_option maxHeartbeats 4000000 in
theorem fpH (m s nx:List (List Int)) (x:Int) (a:Int×Int):DoesH Tryz.prog 23 [prA m s,.sl (.ii nx),.int x,frA a] [] [] (.tup [.one (.own 0),.one (.b (.val (.bool (ptT m s nx x a).2)))]) [.row 3 (.ints (ptT m s nx x a).1)]:=by
  have hG:=l9Get_d m s nx x
  cases hk:(takesB m s x [] && algB m s nx)
  · rw [hk,prQ_bad hk] at hG
    have hG:Does Tryz.prog 49 [prA m s,.sl (.ii nx),.int x] (.imm (.tup [.agg [.b (.val (.slice none 0 0)),.b (.val (.slice none 0 0)),.b (.val (.bool false))],.one (.b (.val (.bool false)))])):=hG
    have hcy:ptT m s nx x a=([],false):=by unfold ptT ptO;rw [prQ_bad hk];rfl
    rw [hcy]
    refine spec_hB Tryz.func23 rfl Tryz.ntmps23 cfOK (fun _ _=>by kernel_rfl) rfl rfl rfl ?_
    intro M0 w0 S φ0
    rw [Tryz.results23]
    refine amGo ?_
    ((try refine Or.inl ?_);refine ⟨_,(hG),amF,?_⟩;refine amC ?_)
    refine amGo ?_
    (refine .inr (.inr (callW_gf (.bool false) (by first | rfl | (simp only [xr,simprocAttr];done)) rfl ?_));refine amC ?_)
    refine amGo ?_
    refine awp_cond amQ (fun hr => ?_) (fun hr => ?_)
    · refine amGoR ?_
      refine amGo ?_
      (simp only [ends_normal,ends_ret];refine retH_2 (vs:=[_,_]) [3] rfl ⟨rfl,trivial⟩ rfl rfl rfl rfl ⟨rfl,rfl,trivial⟩ ?_;try rfl)
    · simp at hr
  · rw [hk] at hG
    cases hq:(prQ m s nx x).2
    · have hF:=prQ_full hq
      have hG:Does Tryz.prog 49 [prA m s,.sl (.ii nx),.int x] (.imm (.tup [.agg [.b (.sl (.k 2 (prQ m s nx x).1.list)),.b (.sl (.ki 3 (eg3 (prQ m s nx x).1.rows))),.b (.val (.bool false))],.one (.b (.val (.bool true)))])):=by
        have hG2:=hG
        unfold prAv at hG2
        rw [hq] at hG2
        exact hG2
      have hcy:ptO m s nx x a=bif !ratioB a then none else potT (egs (prQ m s nx x).1.rows) a (prQ m s nx x).1.list.length:=by unfold ptO;rw [hq];rfl
      unfold ptT
      rw [hcy]
      generalize (prQ m s nx x).1=g at hG hF
      cases hra:ratioB a
      · skip
        refine spec_hB Tryz.func23 rfl Tryz.ntmps23 cfOK (fun _ _=>by kernel_rfl) rfl rfl rfl ?_
        intro M0 w0 S φ0
        rw [Tryz.results23]
        refine amGo ?_
        ((try refine Or.inl ?_);refine ⟨_,(hG),amF,?_⟩;refine amC ?_)
        refine amGo ?_
        ((try refine Or.inl ?_);refine ⟨_,(l9Ratio_d a),.inl rfl,?_⟩;refine amC ?_)
        rw [hra]
        refine amGo ?_
        refine awp_cond amQ (fun hr => ?_) (fun hr => ?_)
        · refine amGoR ?_
          refine amGo ?_
          (simp only [ends_normal,ends_ret];refine retH_2 (vs:=[_,_]) [3] rfl ⟨rfl,trivial⟩ rfl rfl rfl rfl ⟨rfl,rfl,trivial⟩ ?_;try rfl)
        · simp at hr
      have hT:=potT_ok (egs g.rows) a g.list.length
      rcases hT with ⟨t,h1,h2⟩ | ⟨h1,h2⟩
      · rw [show (bif !true then none else potT (egs g.rows) a g.list.length)=potT (egs g.rows) a g.list.length from rfl,h2]
        have hl:=l9Rise_h hF hra (.inl ⟨t,h1,rfl⟩)
        have hlast:=h1.2.1
        generalize rnd (jxR (wtR a.1 a.2) (egs g.rows)) g.list.length (t+1)=Z at hl hlast
        refine spec_hB Tryz.func23 rfl Tryz.ntmps23 cfOK (fun _ _=>by kernel_rfl) rfl rfl rfl ?_
        intro M0 w0 S φ0
        rw [Tryz.results23]
        refine amGo ?_
        ((try refine Or.inl ?_);refine ⟨_,(hG),amF,?_⟩;refine amC ?_)
        refine amGo ?_
        ((try refine Or.inl ?_);refine ⟨_,(l9Ratio_d a),.inl rfl,?_⟩;refine amC ?_)
        rw [hra]
        refine amGo ?_
        refine awp_cond amQ (fun hr => ?_) (fun hr => ?_)
        · simp at hr
        refine amGo ?_
        (refine .inr (.inl (callW_b (hl) rfl rfl rfl rfl rfl rfl rfl ?_));refine amC ?_)
        refine amGo ?_
        refine awp_cond amQ (fun hz => ?_) (fun hz => ?_)
        · have hz:=of_decide_eq_true hz
          omega
        refine amGo ?_
        (simp only [ends_normal,ends_ret];refine retH_2 (vs:=[_,_]) [3] rfl ⟨rfl,trivial⟩ rfl rfl rfl rfl ⟨rfl,rfl,trivial⟩ ?_;try rfl)
      · rw [show (bif !true then none else potT (egs g.rows) a g.list.length)=potT (egs g.rows) a g.list.length from rfl,h2]
        have hl:=l9Rise_d hF hra (.inr ⟨h1,rfl⟩)
        have hlast:=h1 _ (Nat.le_refl _)
        generalize rnd (jxR (wtR a.1 a.2) (egs g.rows)) g.list.length (g.list.length+1)=Z at hl hlast
        refine spec_hB Tryz.func23 rfl Tryz.ntmps23 cfOK (fun _ _=>by kernel_rfl) rfl rfl rfl ?_
        intro M0 w0 S φ0
        rw [Tryz.results23]
        refine amGo ?_
        ((try refine Or.inl ?_);refine ⟨_,(hG),amF,?_⟩;refine amC ?_)
        refine amGo ?_
        ((try refine Or.inl ?_);refine ⟨_,(l9Ratio_d a),.inl rfl,?_⟩;refine amC ?_)
        rw [hra]
        refine amGo ?_
        refine awp_cond amQ (fun hr => ?_) (fun hr => ?_)
        · simp at hr
        refine amGo ?_
        ((try refine Or.inl ?_);refine ⟨_,(hl),amF,?_⟩;refine amC ?_)
        refine amGo ?_
        refine awp_cond amQ (fun hz => ?_) (fun hz => ?_)
        · refine amGoR ?_
          refine amGo ?_
          (simp only [ends_normal,ends_ret];refine retH_2 (vs:=[_,_]) [4] rfl ⟨rfl,trivial⟩ rfl rfl rfl rfl ⟨rfl,rfl,trivial⟩ ?_;try rfl)
        · have hz:=of_decide_eq_false hz
          omega
    · have hG:Does Tryz.prog 49 [prA m s,.sl (.ii nx),.int x] (.imm (.tup [.agg [.b (.sl (.k 2 (prQ m s nx x).1.list)),.b (.sl (.ki 3 (eg3 (prQ m s nx x).1.rows))),.b (.val (.bool true))],.one (.b (.val (.bool false)))])):=by
        have hG2:=hG
        unfold prAv at hG2
        rw [hq] at hG2
        exact hG2
      have hcy:ptT m s nx x a=([],false):=by unfold ptT ptO;rw [hq];rfl
      rw [hcy]
      refine spec_hB Tryz.func23 rfl Tryz.ntmps23 cfOK (fun _ _=>by kernel_rfl) rfl rfl rfl ?_
      intro M0 w0 S φ0
      rw [Tryz.results23]
      refine amGo ?_
      ((try refine Or.inl ?_);refine ⟨_,(hG),amF,?_⟩;refine amC ?_)
      refine amGo ?_
      (refine .inr (.inr (callW_gf (.bool false) (by first | rfl | (simp only [xr,simprocAttr];done)) rfl ?_));refine amC ?_)
      refine amGo ?_
      refine awp_cond amQ (fun hr => ?_) (fun hr => ?_)
      · refine amGoR ?_
        refine amGo ?_
        (simp only [ends_normal,ends_ret];refine retH_2 (vs:=[_,_]) [3] rfl ⟨rfl,trivial⟩ rfl rfl rfl rfl ⟨rfl,rfl,trivial⟩ ?_;try rfl)
      · simp at hr
/-- the pairs that are told -/
def poL (m s nx:List (List Int)) (x:Int):List (List Int):=bif (prQ m s nx x).2 then [] else (prQ m s nx x).1.list
theorem spec_PairsOf_d (m s nx:List (List Int)) (x:Int):Does Tryz.prog 41 [prA m s,.sl (.ii nx),.int x] (.imm (.tup [.one (.b (.sl (.k 2 (poL m s nx x)))),.one (.b (.val (.bool (!(prQ m s nx x).2))))])):=by
  have hG:=l9Get_d m s nx x
  unfold poL
  cases hk:(takesB m s x [] && algB m s nx)
  · rw [hk,prQ_bad hk] at hG
    have hG:Does Tryz.prog 49 [prA m s,.sl (.ii nx),.int x] (.imm (.tup [.agg [.b (.val (.slice none 0 0)),.b (.val (.slice none 0 0)),.b (.val (.bool false))],.one (.b (.val (.bool false)))])):=hG
    rw [prQ_bad hk]
    refine spec_imm Tryz.func41 rfl Tryz.ntmps41 cfOK (fun _ _=>by kernel_rfl) rfl (Nat.le_of_ble_eq_true rfl) ?_
    intro M0 w0
    rw [Tryz.results41]
    refine amGo ?_
    ((try refine Or.inl ?_);refine ⟨_,(hG),amF,?_⟩;refine amC ?_)
    refine amGo ?_
    refine awp_cond amQ (fun hr => ?_) (fun hr => ?_)
    · refine amGoR ?_
      (refine awp_frz 2 rfl ?_;simp only [xz,simprocAttr])
      refine amGo ?_
      (simp only [xec,simprocAttr];refine ⟨[_,_],⟨rfl,rfl,trivial⟩,rfl,Imp.eq ?_⟩)
      rfl
    · simp at hr
  · rw [hk] at hG
    cases hq:(prQ m s nx x).2
    · have hG:Does Tryz.prog 49 [prA m s,.sl (.ii nx),.int x] (.imm (.tup [.agg [.b (.sl (.k 2 (prQ m s nx x).1.list)),.b (.sl (.ki 3 (eg3 (prQ m s nx x).1.rows))),.b (.val (.bool false))],.one (.b (.val (.bool true)))])):=by
        have hG2:=hG
        unfold prAv at hG2
        rw [hq] at hG2
        exact hG2
      refine spec_imm Tryz.func41 rfl Tryz.ntmps41 cfOK (fun _ _=>by kernel_rfl) rfl (Nat.le_of_ble_eq_true rfl) ?_
      intro M0 w0
      rw [Tryz.results41]
      refine amGo ?_
      ((try refine Or.inl ?_);refine ⟨_,(hG),amF,?_⟩;refine amC ?_)
      refine amGo ?_
      refine awp_cond amQ (fun hr => ?_) (fun hr => ?_)
      · simp at hr
      · refine amGo ?_
        (simp only [xec,simprocAttr];refine ⟨[_,_],⟨rfl,rfl,trivial⟩,rfl,Imp.eq ?_⟩)
        rfl
    · have hG:Does Tryz.prog 49 [prA m s,.sl (.ii nx),.int x] (.imm (.tup [.agg [.b (.sl (.k 2 (prQ m s nx x).1.list)),.b (.sl (.ki 3 (eg3 (prQ m s nx x).1.rows))),.b (.val (.bool true))],.one (.b (.val (.bool false)))])):=by
        have hG2:=hG
        unfold prAv at hG2
        rw [hq] at hG2
        exact hG2
      refine spec_imm Tryz.func41 rfl Tryz.ntmps41 cfOK (fun _ _=>by kernel_rfl) rfl (Nat.le_of_ble_eq_true rfl) ?_
      intro M0 w0
      rw [Tryz.results41]
      refine amGo ?_
      ((try refine Or.inl ?_);refine ⟨_,(hG),amF,?_⟩;refine amC ?_)
      refine amGo ?_
      refine awp_cond amQ (fun hr => ?_) (fun hr => ?_)
      · refine amGoR ?_
        (refine awp_frz 2 rfl ?_;simp only [xz,simprocAttr])
        refine amGo ?_
        (simp only [xec,simprocAttr];refine ⟨[_,_],⟨rfl,rfl,trivial⟩,rfl,Imp.eq ?_⟩)
        rfl
      · simp at hr
end Go.Proofs.YtlhdeofkhajigaaGreat
/- IsPotential, FirstBroken and PairAfter, on the machine. Conditions: none. -/
set_option linter.all false
set_option linter.unusedSimpArgs false
set_option linter.unusedVariables false
namespace Go.Proofs.YtlhdeofkhajigaaGreat
open Go Go.RowKit Am

theorem l9Table_d (g:PrT) (tab:List Int) (hg:g.list.length≤1000):Does Tryz.prog 51 [grA g,.sl (.ints tab)] (.imm (.bool (tbB g.list.length tab))):=by
  refine spec_imm Tryz.func51 rfl Tryz.ntmps51 cfOK (fun _ _=>by kernel_rfl) rfl (Nat.le_of_ble_eq_true rfl) ?_
  intro M0 w0
  rw [Tryz.results51]
  (refine awp_fits 1 rfl fun hf => ?_;simp only [xp,simprocAttr] at hf;simp only [xf,simprocAttr] at hf)
  refine amGo ?_
  refine awp_rounds (α:=Nat) (fun k=>[(5,true,.int k)]) [1,2] (fun _=>[.box [.b (.sl (.k 2 g.list)),.b (.sl (.ki 3 (eg3 g.rows))),.b (.val (.bool false))]]) (fun k=>k≤tab.length∧allIn 0 1000000000000000 (tab.take k)=true) (fun k=>tab.length-k) 0 (by ((try simp only [xk]);(repeat (refine leK_cons ?_ ?_;first | (exact amE) | rotate_left));(try exact leK_nil rfl);(all_goals (try (simp only [xr,simprocAttr];try refine int_eq1 ?_))))) ⟨Nat.zero_le _,rfl⟩ fun k hk => ?_
  obtain ⟨hk,hal⟩:=hk
  simp only [xr,simprocAttr]
  refine amGo ?_
  refine awp_cond amQ (fun hc => ?_) (fun hc => ?_)
  · have hc:=of_decide_eq_true hc
    have hk':k<tab.length:=by omega
    refine amGo ?_
    ((try refine Or.inl ?_);refine ⟨_,(l1In_d _ _ _),.inl rfl,?_⟩;refine amC ?_)
    refine amGo ?_
    cases hx:rng (tab.getD k 0) 0 1000000000000000
    · refine awp_cond amQ (fun hd => ?_) (fun hd => ?_)
      · refine amGo ?_
        (simp only [xe,simprocAttr];refine ⟨_,rfl,rfl,Imp.eq ?_⟩)
        have h1:allIn 0 1000000000000000 tab=false:=all_no hk' 0 hx
        unfold tbB
        rw [h1,Bool.and_false]
      · cases hd
    · refine awp_cond amQ (fun hd => ?_) (fun hd => ?_)
      · cases hd
      · refine amGo ?_
        refine ⟨k+1,by omega,?_,by omega,.inl ?_⟩
        · unfold allIn at hal ⊢
          rw [take_getD hk' 0,List.all_append,hal]
          simp only [List.all_cons,List.all_nil,hx]
          rfl
        · ((try simp only [xk]);(repeat (refine leK_cons ?_ ?_;first | (exact amE) | rotate_left));(try exact leK_nil rfl);(all_goals (try (simp only [xr,simprocAttr];try refine int_eq1 ?_))))
  · have hc:=of_decide_eq_false hc
    have hk':k=tab.length:=by omega
    subst hk'
    rw [List.take_length] at hal
    refine amGo ?_
    (simp only [xe,simprocAttr];refine ⟨_,rfl,rfl,Imp.eq ?_⟩)
    show AV.bool _=AV.bool _
    unfold tbB
    rw [hal,Bool.and_true,dec_len]
/-- the pair and the request of the first edge at which numbers are no potential -/
def bkV (K:Nat) (k:Int):(Int×Int)×Bool:=if k<0 then ((0,0),false) else ((((k.toNat / K:Nat):Int),((k.toNat % K:Nat):Int)),true)
theorem bk_at {K i r:Nat} (hr:r<K):bkV K ((i*K+r:Nat):Int)=(((i:Int),(r:Int)),true):=by
  unfold bkV
  rw [if_neg (by omega),Int.toNat_natCast,Nat.mul_comm,Nat.mul_add_div (by omega),Nat.mul_add_mod,Nat.div_eq_of_lt hr,Nat.mod_eq_of_lt hr,Nat.add_zero]
set_option maxHeartbeats 2000000 in
theorem l9Broken_d {m s:List (List Int)} {g:PrT} (hF:PrFull m s g) {a:Int×Int} (ha:ratioB a=true) {tab:List Int} (ht:tbB g.list.length tab=true):Does Tryz.prog 52 [grA g,frA a,.sl (.ints tab)] (.imm (.tup [frT (bkV s.length (idxOf (brk a tab) (egs g.rows))).1,blT (bkV s.length (idxOf (brk a tab) (egs g.rows))).2])):=by
  have hE:=eg_I hF
  have hrl:=hF.rlen
  have hle:=hF.le
  have hps:=prob_len hF.prob
  obtain ⟨h1,h2,h3,h4⟩:=ratio_ok ha
  have hW:=wt_bd (eg_c hF) (a:=a.1) (b:=a.2) h1 h2 (by omega) (by omega)
  have hel:(eg3 g.rows).length=g.rows.length:=by simp [eg3]
  have hlenE:(egs g.rows).length=g.list.length*s.length:=by rw [egs_len hF.row,hF.rlen]
  have htl:=fun k hk=>tab_at (n:=g.list.length) ht (j:=k) hk
  refine spec_imm Tryz.func52 rfl Tryz.ntmps52 cfOK (fun _ _=>by kernel_rfl) rfl (Nat.le_of_ble_eq_true rfl) ?_
  intro M0 w0
  rw [Tryz.results52]
  refine amGo ?_
  refine awp_rounds (α:=Nat) (fun i=>[(8,true,.int i)]) [2,3,4,6] (fun _=>[.box [.b (.sl (.k 2 g.list)),.b (.sl (.ki 3 (eg3 g.rows))),.b (.val (.bool false))],.box [.b (.val (.int .i64 a.1)),.b (.val (.int .i64 a.2))],.box [.b (.val (.int .i64 0)),.b (.val (.int .i64 0))]]) (fun i=>i≤g.list.length∧∀ e∈(egs g.rows).take (i*s.length),brk a tab e=false) (fun i=>g.list.length-i) 0 (by ((try simp only [xk]);(repeat (refine leK_cons ?_ ?_;first | (exact amE) | rotate_left));(refine leK_nil ?_;exact (by rfl));(all_goals (try (simp only [xr,simprocAttr];try refine int_eq1 ?_))))) ⟨Nat.zero_le _,by simp⟩ fun i hi => ?_
  obtain ⟨hi,hno⟩:=hi
  simp only [xr,simprocAttr]
  refine amGo ?_
  refine awp_cond amQ (fun hc => ?_) (fun hc => ?_)
  · have hc:=of_decide_eq_true hc
    have hi':i<g.list.length:=by omega
    have hrw:((eg3 g.rows).getD i []).length=s.length:=eg3_rl.trans (hF.row i (by omega))
    refine amGo ?_
    refine awp_rounds (α:=Nat) (fun r=>[(9,true,.int r)]) [2,3,4,6,8] (fun _=>[.box [.b (.sl (.k 2 g.list)),.b (.sl (.ki 3 (eg3 g.rows))),.b (.val (.bool false))],.box [.b (.val (.int .i64 a.1)),.b (.val (.int .i64 a.2))],.box [.b (.val (.int .i64 0)),.b (.val (.int .i64 0))]]) (fun r=>r≤s.length∧∀ e∈(egs g.rows).take (i*s.length+r),brk a tab e=false) (fun r=>s.length-r) 0 (by ((try simp only [xk]);(repeat (refine leK_cons ?_ ?_;first | (exact amE) | rotate_left));(refine leK_nil ?_;exact (by rfl));(all_goals (try (simp only [xr,simprocAttr];try refine int_eq1 ?_))))) ⟨Nat.zero_le _,hno⟩ fun r hr => ?_
    obtain ⟨hr,hn2⟩:=hr
    simp only [xr,simprocAttr]
    refine amGo ?_
    refine awp_cond amQ (fun hd => ?_) (fun hd => ?_)
    · have hd:=of_decide_eq_true hd
      have hr':r<s.length:=by omega
      obtain ⟨v,x,y,h5,h6,h7⟩:=eg_in hF hi' hr'
      have hk:i*s.length+r<(egs g.rows).length:=by
        rw [hlenE]
        have h5:=Nat.mul_le_mul_right s.length (show i+1≤g.list.length by omega)
        rw [Nat.succ_mul] at h5
        omega
      have hW5:=(hW _ (getD_mem hk)).1
      have he:=eg3_e hF hi' hr'
      have hgd:=l9Gain_d ((egs g.rows).getD (i*s.length+r) []) a hW5.1 (by omega) hW5.2.2.1 (by omega)
      have hgc:gainC a.1 a.2 ((egs g.rows).getD (i*s.length+r) [])=a.2*((egs g.rows).getD (i*s.length+r) []).getD 2 0-a.1*((egs g.rows).getD (i*s.length+r) []).getD 3 0:=rfl
      have hto:(c3 ((egs g.rows).getD (i*s.length+r) [])).getD 0 0=(v:Int):=by rw [h5];rfl
      have hb:brk a tab ((egs g.rows).getD (i*s.length+r) [])=decide (tab.getD i 0<gainC a.1 a.2 ((egs g.rows).getD (i*s.length+r) [])+tab.getD v 0):=by
        unfold brk
        rw [show ((egs g.rows).getD (i*s.length+r) []).getD 0 0=(i:Int) by rw [h5];rfl,show ((egs g.rows).getD (i*s.length+r) []).getD 1 0=(v:Int) by rw [h5];rfl,Int.toNat_natCast,Int.toNat_natCast]
      have t1:=htl i hi'
      have t2:=htl v h6
      rw [hto] at hgd
      refine amGo ?_
      simp only [he,hto]
      ((try refine Or.inl ?_);refine ⟨_,(hgd),.inl rfl,?_⟩;refine amC ?_)
      refine amGo ?_
      refine awp_cond amQ (fun hx => ?_) (fun hx => ?_)
      · have hx:=of_decide_eq_true hx
        have hid:=idxOf_some (p:=brk a tab) hk (by rw [← getD_in (d:=[]) hk,hb];exact decide_eq_true hx) hn2
        rw [hid,bk_at hr']
        refine amGo ?_
        (simp only [xec,simprocAttr];refine ⟨[_,_],⟨⟨amK,rfl⟩,rfl,trivial⟩,rfl,Imp.eq ?_⟩)
        rfl
      · have hx:=of_decide_eq_false hx
        refine amGo ?_
        refine ⟨r+1,by omega,fun e he2 => ?_,by omega,.inl ?_⟩
        · rw [show i*s.length+(r+1)=(i*s.length+r)+1 by omega,take_getD hk [],List.mem_append,List.mem_singleton] at he2
          rcases he2 with he2 | rfl
          · exact hn2 e he2
          · rw [hb]
            exact decide_eq_false hx
        · ((try simp only [xk]);(repeat (refine leK_cons ?_ ?_;first | (exact amE) | rotate_left));(refine leK_nil ?_;exact (by rfl));(all_goals (try (simp only [xr,simprocAttr];try refine int_eq1 ?_))))
    · have hd:=of_decide_eq_false hd
      obtain rfl:r=s.length:=by omega
      refine amGo ?_
      refine ⟨i+1,by omega,by rw [Nat.succ_mul];exact hn2,by omega,.inl ?_⟩
      ((try simp only [xk]);(repeat (refine leK_cons ?_ ?_;first | (exact amE) | rotate_left));(refine leK_nil ?_;exact (by rfl));(all_goals (try (simp only [xr,simprocAttr];try refine int_eq1 ?_))))
  · have hc:=of_decide_eq_false hc
    obtain rfl:i=g.list.length:=by omega
    rw [← hlenE,List.take_length] at hno
    rw [idxOf_none hno]
    refine amGo ?_
    (simp only [xec,simprocAttr];refine ⟨[_,_],⟨⟨amK,rfl⟩,rfl,trivial⟩,rfl,Imp.eq ?_⟩)
    rfl
/-- what is told of the first edge at which numbers are no potential -/
def fbV (m s nx:List (List Int)) (x:Int) (a:Int×Int) (tab:List Int):(Int×Int)×Bool:=bif ipO m s nx x a && tbB (prQ m s nx x).1.list.length tab then bkV s.length (idxOf (brk a tab) (egs (prQ m s nx x).1.rows)) else ((0,0),false)
theorem prQ_k {m s nx:List (List Int)} {x:Int} (hq:(prQ m s nx x).2=false):(takesB m s x [] && algB m s nx)=true:=by
  cases h:(takesB m s x [] && algB m s nx)
  · rw [prQ_bad h] at hq;cases hq
  · rfl
set_option maxHeartbeats 2000000 in
theorem spec_IsPotential_d (m s nx:List (List Int)) (x:Int) (a:Int×Int) (tab:List Int):Does Tryz.prog 10 [prA m s,.sl (.ii nx),.int x,frA a,.sl (.ints tab)] (.imm (b2V (ipO m s nx x a && ipB m s nx x a tab) (ipO m s nx x a))):=by
  have hG:=l9Get_d m s nx x
  cases hq:(prQ m s nx x).2
  · have hF:=prQ_full hq
    rw [prQ_k hq] at hG
    have hG:Does Tryz.prog 49 [prA m s,.sl (.ii nx),.int x] (.imm (.tup [.agg [.b (.sl (.k 2 (prQ m s nx x).1.list)),.b (.sl (.ki 3 (eg3 (prQ m s nx x).1.rows))),.b (.val (.bool false))],.one (.b (.val (.bool true)))])):=by
      have hG2:=hG
      unfold prAv at hG2
      rw [hq] at hG2
      exact hG2
    have e1:ipO m s nx x a=ratioB a:=by unfold ipO;rw [hq];rfl
    rw [e1]
    unfold ipB
    generalize (prQ m s nx x).1=g at hG hF
    have hle:=hF.le
    cases hra:ratioB a
    · skip
      refine spec_imm Tryz.func10 rfl Tryz.ntmps10 cfOK (fun _ _=>by kernel_rfl) rfl (Nat.le_of_ble_eq_true rfl) ?_
      intro M0 w0
      rw [Tryz.results10]
      refine amGo ?_
      ((try refine Or.inl ?_);refine ⟨_,(hG),amF,?_⟩;refine amC ?_)
      refine amGo ?_
      ((try refine Or.inl ?_);refine ⟨_,(l9Ratio_d a),.inl rfl,?_⟩;refine amC ?_)
      rw [hra]
      refine amGo ?_
      refine awp_cond amQ (fun hr => ?_) (fun hr => ?_)
      · refine amGo ?_
        (simp only [xe,simprocAttr];refine ⟨[_,_],⟨rfl,rfl,trivial⟩,rfl,Imp.eq ?_⟩)
        rfl
      · simp at hr
    cases ht:tbB g.list.length tab
    · skip
      refine spec_imm Tryz.func10 rfl Tryz.ntmps10 cfOK (fun _ _=>by kernel_rfl) rfl (Nat.le_of_ble_eq_true rfl) ?_
      intro M0 w0
      rw [Tryz.results10]
      refine amGo ?_
      ((try refine Or.inl ?_);refine ⟨_,(hG),amF,?_⟩;refine amC ?_)
      refine amGo ?_
      ((try refine Or.inl ?_);refine ⟨_,(l9Ratio_d a),.inl rfl,?_⟩;refine amC ?_)
      rw [hra]
      refine amGo ?_
      refine awp_cond amQ (fun hr => ?_) (fun hr => ?_)
      · simp at hr
      refine amGo ?_
      ((try refine Or.inl ?_);refine ⟨_,(l9Table_d g tab (by omega)),.inl rfl,?_⟩;refine amC ?_)
      rw [ht]
      refine amGo ?_
      refine awp_cond amQ (fun hz => ?_) (fun hz => ?_)
      · refine amGo ?_
        (simp only [xe,simprocAttr];refine ⟨[_,_],⟨rfl,rfl,trivial⟩,rfl,Imp.eq ?_⟩)
        rfl
      · simp at hz
    · have hb:=l9Broken_d hF hra ht
      have hany:=idxOf_any (brk a tab) (egs g.rows)
      generalize idxOf (brk a tab) (egs g.rows)=k at hb hany
      have e2:(bkV s.length k).2=decide (0≤k):=by
        unfold bkV
        by_cases hk:k<0
        · rw [if_pos hk,decide_eq_false (show ¬ 0≤k by omega)]
        · rw [if_neg hk,decide_eq_true (show 0≤k by omega)]
      rw [e2] at hb
      generalize (bkV s.length k).1=p at hb
      refine spec_imm Tryz.func10 rfl Tryz.ntmps10 cfOK (fun _ _=>by kernel_rfl) rfl (Nat.le_of_ble_eq_true rfl) ?_
      intro M0 w0
      rw [Tryz.results10]
      refine amGo ?_
      ((try refine Or.inl ?_);refine ⟨_,(hG),amF,?_⟩;refine amC ?_)
      refine amGo ?_
      ((try refine Or.inl ?_);refine ⟨_,(l9Ratio_d a),.inl rfl,?_⟩;refine amC ?_)
      rw [hra]
      refine amGo ?_
      refine awp_cond amQ (fun hr => ?_) (fun hr => ?_)
      · simp at hr
      refine amGo ?_
      ((try refine Or.inl ?_);refine ⟨_,(l9Table_d g tab (by omega)),.inl rfl,?_⟩;refine amC ?_)
      rw [ht]
      refine amGo ?_
      refine awp_cond amQ (fun hz => ?_) (fun hz => ?_)
      · simp at hz
      refine amGo ?_
      ((try refine Or.inl ?_);refine ⟨_,(hb),.inl rfl,?_⟩;refine amC ?_)
      refine amGo ?_
      (simp only [xe,simprocAttr];refine ⟨[_,_],⟨rfl,rfl,trivial⟩,rfl,Imp.eq ?_⟩)
      rw [← hany]
  · have e1:ipO m s nx x a=false:=by unfold ipO;rw [hq];rfl
    rw [e1]
    cases hk:(takesB m s x [] && algB m s nx)
    · rw [hk,prQ_bad hk] at hG
      have hG:Does Tryz.prog 49 [prA m s,.sl (.ii nx),.int x] (.imm (.tup [.agg [.b (.val (.slice none 0 0)),.b (.val (.slice none 0 0)),.b (.val (.bool false))],.one (.b (.val (.bool false)))])):=hG
      refine spec_imm Tryz.func10 rfl Tryz.ntmps10 cfOK (fun _ _=>by kernel_rfl) rfl (Nat.le_of_ble_eq_true rfl) ?_
      intro M0 w0
      rw [Tryz.results10]
      refine amGo ?_
      ((try refine Or.inl ?_);refine ⟨_,(hG),amF,?_⟩;refine amC ?_)
      refine amGo ?_
      (refine .inr (.inr (callW_gf (.bool false) (by first | rfl | (simp only [xr,simprocAttr];done)) rfl ?_));refine amC ?_)
      refine amGo ?_
      refine awp_cond amQ (fun hr => ?_) (fun hr => ?_)
      · refine amGo ?_
        (simp only [xe,simprocAttr];refine ⟨[_,_],⟨rfl,rfl,trivial⟩,rfl,Imp.eq ?_⟩)
        rfl
      · simp at hr
    · rw [hk] at hG
      have hG:Does Tryz.prog 49 [prA m s,.sl (.ii nx),.int x] (.imm (.tup [.agg [.b (.sl (.k 2 (prQ m s nx x).1.list)),.b (.sl (.ki 3 (eg3 (prQ m s nx x).1.rows))),.b (.val (.bool true))],.one (.b (.val (.bool false)))])):=by
        have hG2:=hG
        unfold prAv at hG2
        rw [hq] at hG2
        exact hG2
      refine spec_imm Tryz.func10 rfl Tryz.ntmps10 cfOK (fun _ _=>by kernel_rfl) rfl (Nat.le_of_ble_eq_true rfl) ?_
      intro M0 w0
      rw [Tryz.results10]
      refine amGo ?_
      ((try refine Or.inl ?_);refine ⟨_,(hG),amF,?_⟩;refine amC ?_)
      refine amGo ?_
      (refine .inr (.inr (callW_gf (.bool false) (by first | rfl | (simp only [xr,simprocAttr];done)) rfl ?_));refine amC ?_)
      refine amGo ?_
      refine awp_cond amQ (fun hr => ?_) (fun hr => ?_)
      · refine amGo ?_
        (simp only [xe,simprocAttr];refine ⟨[_,_],⟨rfl,rfl,trivial⟩,rfl,Imp.eq ?_⟩)
        rfl
      · simp at hr
set_option maxHeartbeats 2000000 in
theorem spec_FirstBroken_d (m s nx:List (List Int)) (x:Int) (a:Int×Int) (tab:List Int):Does Tryz.prog 12 [prA m s,.sl (.ii nx),.int x,frA a,.sl (.ints tab)] (.imm (.tup [frT (fbV m s nx x a tab).1,blT (fbV m s nx x a tab).2])):=by
  have hG:=l9Get_d m s nx x
  unfold fbV
  cases hq:(prQ m s nx x).2
  · have hF:=prQ_full hq
    rw [prQ_k hq] at hG
    have hG:Does Tryz.prog 49 [prA m s,.sl (.ii nx),.int x] (.imm (.tup [.agg [.b (.sl (.k 2 (prQ m s nx x).1.list)),.b (.sl (.ki 3 (eg3 (prQ m s nx x).1.rows))),.b (.val (.bool false))],.one (.b (.val (.bool true)))])):=by
      have hG2:=hG
      unfold prAv at hG2
      rw [hq] at hG2
      exact hG2
    have e1:ipO m s nx x a=ratioB a:=by unfold ipO;rw [hq];rfl
    rw [e1]
    generalize (prQ m s nx x).1=g at hG hF
    have hle:=hF.le
    cases hrt:(ratioB a && tbB g.list.length tab)
    · skip
      refine spec_imm Tryz.func12 rfl Tryz.ntmps12 cfOK (fun _ _=>by kernel_rfl) rfl (Nat.le_of_ble_eq_true rfl) ?_
      intro M0 w0
      rw [Tryz.results12]
      refine amGo ?_
      ((try refine Or.inl ?_);refine ⟨_,(hG),amF,?_⟩;refine amC ?_)
      refine amGo ?_
      ((try refine Or.inl ?_);refine ⟨_,(l9Ratio_d a),.inl rfl,?_⟩;refine amC ?_)
      refine amGo ?_
      ((try refine Or.inl ?_);refine ⟨_,(fun _=>l9Table_d g tab (by omega)),.inl rfl,?_⟩;refine amC ?_)
      refine amGo ?_
      refine awp_cond amQ (fun hr => ?_) (fun hr => ?_)
      · refine amGo ?_
        (simp only [xec,simprocAttr];refine ⟨[_,_],⟨⟨amK,rfl⟩,rfl,trivial⟩,rfl,Imp.eq ?_⟩)
        rfl
      · revert hr hrt
        cases ratioB a<;>cases tbB g.list.length tab<;>simp
    · have hrt2:=hrt
      rw [Bool.and_eq_true] at hrt2
      have hb:=l9Broken_d hF hrt2.1 hrt2.2
      generalize idxOf (brk a tab) (egs g.rows)=k at hb
      show Does _ _ _ (.imm (.tup [frT (bkV s.length k).1,blT (bkV s.length k).2]))
      generalize bkV s.length k=p at hb
      refine spec_imm Tryz.func12 rfl Tryz.ntmps12 cfOK (fun _ _=>by kernel_rfl) rfl (Nat.le_of_ble_eq_true rfl) ?_
      intro M0 w0
      rw [Tryz.results12]
      refine amGo ?_
      ((try refine Or.inl ?_);refine ⟨_,(hG),amF,?_⟩;refine amC ?_)
      refine amGo ?_
      ((try refine Or.inl ?_);refine ⟨_,(l9Ratio_d a),.inl rfl,?_⟩;refine amC ?_)
      refine amGo ?_
      ((try refine Or.inl ?_);refine ⟨_,(fun _=>l9Table_d g tab (by omega)),.inl rfl,?_⟩;refine amC ?_)
      refine amGo ?_
      refine awp_cond amQ (fun hr => ?_) (fun hr => ?_)
      · revert hr hrt
        cases ratioB a<;>cases tbB g.list.length tab<;>simp
      refine amGo ?_
      ((try refine Or.inl ?_);refine ⟨_,(hb),.inl rfl,?_⟩;refine amC ?_)
      refine amGo ?_
      (simp only [xec,simprocAttr];refine ⟨[_,_],⟨⟨amK,rfl⟩,rfl,trivial⟩,rfl,Imp.eq ?_⟩)
      rfl
  · have e1:ipO m s nx x a=false:=by unfold ipO;rw [hq];rfl
    rw [e1]
    cases hk:(takesB m s x [] && algB m s nx)
    · rw [hk,prQ_bad hk] at hG
      have hG:Does Tryz.prog 49 [prA m s,.sl (.ii nx),.int x] (.imm (.tup [.agg [.b (.val (.slice none 0 0)),.b (.val (.slice none 0 0)),.b (.val (.bool false))],.one (.b (.val (.bool false)))])):=hG
      refine spec_imm Tryz.func12 rfl Tryz.ntmps12 cfOK (fun _ _=>by kernel_rfl) rfl (Nat.le_of_ble_eq_true rfl) ?_
      intro M0 w0
      rw [Tryz.results12]
      refine amGo ?_
      ((try refine Or.inl ?_);refine ⟨_,(hG),amF,?_⟩;refine amC ?_)
      refine amGo ?_
      (refine .inr (.inr (callW_gf (.bool false) (by first | rfl | (simp only [xr,simprocAttr];done)) rfl ?_));refine amC ?_)
      refine amGo ?_
      (refine .inr (.inr (callW_gf (.bool false) (by first | rfl | (simp only [xr,simprocAttr];done)) rfl ?_));refine amC ?_)
      refine amGo ?_
      refine awp_cond amQ (fun hr => ?_) (fun hr => ?_)
      · refine amGo ?_
        (simp only [xec,simprocAttr];refine ⟨[_,_],⟨⟨amK,rfl⟩,rfl,trivial⟩,rfl,Imp.eq ?_⟩)
        rfl
      · simp at hr
    · rw [hk] at hG
      have hG:Does Tryz.prog 49 [prA m s,.sl (.ii nx),.int x] (.imm (.tup [.agg [.b (.sl (.k 2 (prQ m s nx x).1.list)),.b (.sl (.ki 3 (eg3 (prQ m s nx x).1.rows))),.b (.val (.bool true))],.one (.b (.val (.bool false)))])):=by
        have hG2:=hG
        unfold prAv at hG2
        rw [hq] at hG2
        exact hG2
      refine spec_imm Tryz.func12 rfl Tryz.ntmps12 cfOK (fun _ _=>by kernel_rfl) rfl (Nat.le_of_ble_eq_true rfl) ?_
      intro M0 w0
      rw [Tryz.results12]
      refine amGo ?_
      ((try refine Or.inl ?_);refine ⟨_,(hG),amF,?_⟩;refine amC ?_)
      refine amGo ?_
      (refine .inr (.inr (callW_gf (.bool false) (by first | rfl | (simp only [xr,simprocAttr];done)) rfl ?_));refine amC ?_)
      refine amGo ?_
      (refine .inr (.inr (callW_gf (.bool false) (by first | rfl | (simp only [xr,simprocAttr];done)) rfl ?_));refine amC ?_)
      refine amGo ?_
      refine awp_cond amQ (fun hr => ?_) (fun hr => ?_)
      · refine amGo ?_
        (simp only [xec,simprocAttr];refine ⟨[_,_],⟨⟨amK,rfl⟩,rfl,trivial⟩,rfl,Imp.eq ?_⟩)
        rfl
      · simp at hr
set_option maxHeartbeats 2000000 in
theorem impl_FirstBroken_d (m s nx:List (List Int)) (x:Int) (a:Int×Int) (tab:List Int):Does Tryz.prog 11 [prA m s,.sl (.ii nx),.int x,frA a,.sl (.ints tab)] (.imm (.tup [frT (fbV m s nx x a tab).1,blT (fbV m s nx x a tab).2])):=by
  have hP:=pairsOf_h m s nx x
  unfold fbV
  cases hq:(prQ m s nx x).2
  · have hF:=prQ_full hq
    rw [show prR (prQ m s nx x) = .tup [.one (.ptr 0 0),.one (.b (.val (.bool true)))] by unfold prR;rw [hq];rfl,show prO s.length (prQ m s nx x)=[.box [.own 1,.own 2,.b (.val (.int .i64 s.length))],.row 36 (.k 2 (prQ m s nx x).1.list),.row 93 (.k 4 (egs (prQ m s nx x).1.rows))] by unfold prO;rw [hq];rfl] at hP
    have e1:ipO m s nx x a=ratioB a:=by unfold ipO;rw [hq];rfl
    rw [e1]
    generalize (prQ m s nx x).1=g at hP hF
    have hle:=hF.le
    have hps:=prob_len hF.prob
    have hlE:=(eg_I hF).len
    cases hrt:(ratioB a && tbB g.list.length tab)
    · skip
      refine spec_imm Tryz.func11 rfl Tryz.ntmps11 cfOK (fun _ _=>by kernel_rfl) rfl (Nat.le_of_ble_eq_true rfl) ?_
      intro M0 w0
      rw [Tryz.results11]
      refine amGo ?_
      (refine .inr (.inl (callW_a [] (hP) rfl rfl rfl rfl trivial rfl rfl rfl rfl ?_));refine amC ?_)
      refine amGo ?_
      ((try refine Or.inl ?_);refine ⟨_,(isRatio_d a),.inl rfl,?_⟩;refine amC ?_)
      refine amGo ?_
      ((try refine Or.inl ?_);refine ⟨_,(fun _=>areNumbers_d tab g.list.length (by omega)),.inl rfl,?_⟩;refine amC ?_)
      refine amGo ?_
      refine awp_cond amQ (fun hr => ?_) (fun hr => ?_)
      · refine amGo ?_
        (simp only [xec,simprocAttr];refine ⟨[_,_],⟨⟨amK,rfl⟩,rfl,trivial⟩,rfl,Imp.eq ?_⟩)
        rfl
      · revert hr hrt
        cases ratioB a<;>cases tbB g.list.length tab<;>simp
    · have hrt2:=hrt
      rw [Bool.and_eq_true] at hrt2
      have hb:=broken_d (L:=g.list) (K:=s.length) (eg_I hF) (eg_c hF) hrt2.1 hrt2.2
      have hkb:idxOf (brk a tab) (egs g.rows)<0∨∃ n:Nat,idxOf (brk a tab) (egs g.rows)=n∧n≤2400:=by
        by_cases h:idxOf (brk a tab) (egs g.rows)<0
        · exact .inl h
        · obtain ⟨n,hn,e,_⟩:=idxOf_lt (Int.not_lt.1 h)
          exact .inr ⟨n,e,by omega⟩
      generalize idxOf (brk a tab) (egs g.rows)=k at hb hkb
      show Does _ _ _ (.imm (.tup [frT (bkV s.length k).1,blT (bkV s.length k).2]))
      refine spec_imm Tryz.func11 rfl Tryz.ntmps11 cfOK (fun _ _=>by kernel_rfl) rfl (Nat.le_of_ble_eq_true rfl) ?_
      intro M0 w0
      rw [Tryz.results11]
      refine amGo ?_
      (refine .inr (.inl (callW_a [] (hP) rfl rfl rfl rfl trivial rfl rfl rfl rfl ?_));refine amC ?_)
      refine amGo ?_
      ((try refine Or.inl ?_);refine ⟨_,(isRatio_d a),.inl rfl,?_⟩;refine amC ?_)
      refine amGo ?_
      ((try refine Or.inl ?_);refine ⟨_,(fun _=>areNumbers_d tab g.list.length (by omega)),.inl rfl,?_⟩;refine amC ?_)
      refine amGo ?_
      refine awp_cond amQ (fun hr => ?_) (fun hr => ?_)
      · revert hr hrt
        cases ratioB a<;>cases tbB g.list.length tab<;>simp
      refine amGo ?_
      ((try refine Or.inl ?_);refine ⟨_,(hb),.inl rfl,?_⟩;refine amC ?_)
      refine amGo ?_
      refine awp_cond amQ (fun hz => ?_) (fun hz => ?_)
      · have hz:=of_decide_eq_true hz
        rw [show bkV s.length k=((0,0),false) from if_pos hz]
        refine amGo ?_
        (simp only [xec,simprocAttr];refine ⟨[_,_],⟨⟨amK,rfl⟩,rfl,trivial⟩,rfl,Imp.eq ?_⟩)
        rfl
      · have hz:=of_decide_eq_false hz
        obtain ⟨n,rfl,hn⟩:=hkb.resolve_left hz
        rw [show bkV s.length (n:Int)=((((n / s.length:Nat):Int),((n % s.length:Nat):Int)),true) by unfold bkV;rw [if_neg hz,Int.toNat_natCast]]
        have i1:¬ ((s.length:Int)=0):=by omega
        have i2:(n:Int) / (s.length:Int)=((n / s.length:Nat):Int):=(Int.natCast_ediv n s.length).symm
        have i3:(n:Int) % (s.length:Int)=((n % s.length:Nat):Int):=(Int.natCast_emod n s.length).symm
        (refine amB ?_;refine awp_anyM [2] 13 [] (by kernel_rfl) (by kernel_rfl) (by kernel_rfl) (by kernel_rfl) (by kernel_rfl) ?_;refine amM ?_)
        refine amGo ?_
        (simp only [xec,simprocAttr];refine ⟨[_,_],⟨⟨amK,rfl⟩,rfl,trivial⟩,rfl,Imp.eq ?_⟩)
        rw [i2,i3]
        rfl
  · rw [show prR (prQ m s nx x) = .tup [.one (.b (.val (.pointer none))),.one (.b (.val (.bool false)))] by unfold prR;rw [hq];rfl,show prO s.length (prQ m s nx x)=[] by unfold prO;rw [hq];rfl] at hP
    have e1:ipO m s nx x a=false:=by unfold ipO;rw [hq];rfl
    rw [e1]
    refine spec_imm Tryz.func11 rfl Tryz.ntmps11 cfOK (fun _ _=>by kernel_rfl) rfl (Nat.le_of_ble_eq_true rfl) ?_
    intro M0 w0
    rw [Tryz.results11]
    refine amGo ?_
    (refine .inr (.inl (callW_a [] (hP) rfl rfl rfl rfl trivial rfl rfl rfl rfl ?_));refine amC ?_)
    refine amB ?_
    refine awp_regX [none,none,none,some (.int 0),some (.int 0),some (.bool false),none,none,some (.int 0),some (.int 0),some (.int 0),some (.int 0),some (.int 0),some (.int 0),some (.int 0),some (.bool false)] ?_
    simp only [sWx,xr,simprocAttr]
    refine amS ?_
    refine amGo ?_
    refine awp_cond amQ (fun hr => ?_) (fun hr => ?_)
    · refine amGo ?_
      (simp only [xec,simprocAttr];refine ⟨[_,_],⟨⟨amK,rfl⟩,rfl,trivial⟩,rfl,Imp.eq ?_⟩)
      rfl
    · simp at hr
/-- the pair behind requests -/
def paV (m s nx:List (List Int)) (x:Int) (rs:List Int):Int×Bool:=bif !(prQ m s nx x).2 && seqB s.length rs then ((afterE (egs (prQ m s nx x).1.rows) s.length 0 rs:Int),true) else (0,false)
theorem impl_PairAfter_d (m s nx:List (List Int)) (x:Int) (rs:List Int):Does Tryz.prog 15 [prA m s,.sl (.ii nx),.int x,.sl (.ints rs)] (.imm (i2V (paV m s nx x rs).1 (paV m s nx x rs).2)):=by
  have hP:=pairsOf_h m s nx x
  unfold paV
  cases hq:(prQ m s nx x).2
  · have hF:=prQ_full hq
    rw [show prR (prQ m s nx x) = .tup [.one (.ptr 0 0),.one (.b (.val (.bool true)))] by unfold prR;rw [hq];rfl,show prO s.length (prQ m s nx x)=[.box [.own 1,.own 2,.b (.val (.int .i64 s.length))],.row 36 (.k 2 (prQ m s nx x).1.list),.row 93 (.k 4 (egs (prQ m s nx x).1.rows))] by unfold prO;rw [hq];rfl] at hP
    generalize (prQ m s nx x).1=g at hP hF
    cases hs:seqB s.length rs
    · skip
      refine spec_imm Tryz.func15 rfl Tryz.ntmps15 cfOK (fun _ _=>by kernel_rfl) rfl (Nat.le_of_ble_eq_true rfl) ?_
      intro M0 w0
      rw [Tryz.results15]
      refine amGo ?_
      (refine .inr (.inl (callW_a [] (hP) rfl rfl rfl rfl trivial rfl rfl rfl rfl ?_));refine amC ?_)
      refine amGo ?_
      ((try refine Or.inl ?_);refine ⟨_,(isSequence_d m s rs),.inl rfl,?_⟩;refine amC ?_)
      rw [hs]
      refine amGo ?_
      refine awp_cond amQ (fun hr => ?_) (fun hr => ?_)
      · refine amGo ?_
        (simp only [xe,simprocAttr];refine ⟨[_,_],⟨rfl,rfl,trivial⟩,rfl,Imp.eq ?_⟩)
        rfl
      · simp at hr
    · obtain ⟨k1,k2⟩:=seq_reqs hs
      have h1:=after_d (L:=g.list) (ed_ok hF) (p:=0) hF.pos k1 (by omega)
      refine spec_imm Tryz.func15 rfl Tryz.ntmps15 cfOK (fun _ _=>by kernel_rfl) rfl (Nat.le_of_ble_eq_true rfl) ?_
      intro M0 w0
      rw [Tryz.results15]
      refine amGo ?_
      (refine .inr (.inl (callW_a [] (hP) rfl rfl rfl rfl trivial rfl rfl rfl rfl ?_));refine amC ?_)
      refine amGo ?_
      ((try refine Or.inl ?_);refine ⟨_,(isSequence_d m s rs),.inl rfl,?_⟩;refine amC ?_)
      rw [hs]
      refine amGo ?_
      refine awp_cond amQ (fun hr => ?_) (fun hr => ?_)
      · simp at hr
      refine amGo ?_
      ((try refine Or.inl ?_);refine ⟨_,(h1),.inl rfl,?_⟩;refine amC ?_)
      refine amGo ?_
      (simp only [xe,simprocAttr];refine ⟨[_,_],⟨rfl,rfl,trivial⟩,rfl,Imp.eq ?_⟩)
      rfl
  · rw [show prR (prQ m s nx x) = .tup [.one (.b (.val (.pointer none))),.one (.b (.val (.bool false)))] by unfold prR;rw [hq];rfl,show prO s.length (prQ m s nx x)=[] by unfold prO;rw [hq];rfl] at hP
    refine spec_imm Tryz.func15 rfl Tryz.ntmps15 cfOK (fun _ _=>by kernel_rfl) rfl (Nat.le_of_ble_eq_true rfl) ?_
    intro M0 w0
    rw [Tryz.results15]
    refine amGo ?_
    (refine .inr (.inl (callW_a [] (hP) rfl rfl rfl rfl trivial rfl rfl rfl rfl ?_));refine amC ?_)
    refine amGo ?_
    (refine .inr (.inr (callW_gf (.bool false) (by first | rfl | (simp only [xr,simprocAttr];done)) rfl ?_));refine amC ?_)
    refine amGo ?_
    refine awp_cond amQ (fun hr => ?_) (fun hr => ?_)
    · refine amGo ?_
      (simp only [xe,simprocAttr];refine ⟨[_,_],⟨rfl,rfl,trivial⟩,rfl,Imp.eq ?_⟩)
      rfl
    · simp at hr
theorem spec_PairAfter_d (m s nx:List (List Int)) (x:Int) (rs:List Int):Does Tryz.prog 16 [prA m s,.sl (.ii nx),.int x,.sl (.ints rs)] (.imm (i2V (paV m s nx x rs).1 (paV m s nx x rs).2)):=by
  have hG:=l9Get_d m s nx x
  have hT:=l9Takes_d m s nx x rs
  have hsq:(takesB m s x [] && algB m s nx)=true→(takesB m s x rs && algB m s nx)=seqB s.length rs:=fun hk=>by
    rw [Bool.and_eq_true] at hk
    have h1:=hk.1
    rw [hk.2,Bool.and_true]
    unfold takesB at h1 ⊢
    simp only [Bool.and_eq_true] at h1
    rw [h1.1.1,h1.1.2]
    rfl
  unfold paV
  cases hb:(takesB m s x rs && algB m s nx)
  · have e:(!(prQ m s nx x).2 && seqB s.length rs)=false:=by
      cases hq:(prQ m s nx x).2
      · rw [← hsq (prQ_k hq),hb]
        rfl
      · rfl
    rw [e]
    refine spec_imm Tryz.func16 rfl Tryz.ntmps16 cfOK (fun _ _=>by kernel_rfl) rfl (Nat.le_of_ble_eq_true rfl) ?_
    intro M0 w0
    rw [Tryz.results16]
    refine amGo ?_
    ((try refine Or.inl ?_);refine ⟨_,(hT),.inl rfl,?_⟩;refine amC ?_)
    rw [hb]
    refine amGo ?_
    refine awp_cond amQ (fun hr => ?_) (fun hr => ?_)
    · refine amGo ?_
      (simp only [xe,simprocAttr];refine ⟨[_,_],⟨rfl,rfl,trivial⟩,rfl,Imp.eq ?_⟩)
      rfl
    · simp at hr
  · have hk:(takesB m s x [] && algB m s nx)=true:=by
      rw [Bool.and_eq_true] at hb ⊢
      refine ⟨?_,hb.2⟩
      have h1:=hb.1
      unfold takesB at h1 ⊢
      simp only [Bool.and_eq_true] at h1 ⊢
      exact ⟨h1.1,rfl⟩
    have hs:=(hsq hk).symm.trans hb
    rw [hk] at hG
    rw [hs]
    obtain ⟨k1,k2⟩:=seq_reqs hs
    cases hq:(prQ m s nx x).2
    · have hF:=prQ_full hq
      have hG:Does Tryz.prog 49 [prA m s,.sl (.ii nx),.int x] (.imm (.tup [.agg [.b (.sl (.k 2 (prQ m s nx x).1.list)),.b (.sl (.ki 3 (eg3 (prQ m s nx x).1.rows))),.b (.val (.bool false))],.one (.b (.val (.bool true)))])):=by
        have hG2:=hG
        unfold prAv at hG2
        rw [hq] at hG2
        exact hG2
      generalize (prQ m s nx x).1=g at hG hF
      have h1:=l9After_d hF (p:=0) hF.pos k1 (by omega)
      refine spec_imm Tryz.func16 rfl Tryz.ntmps16 cfOK (fun _ _=>by kernel_rfl) rfl (Nat.le_of_ble_eq_true rfl) ?_
      intro M0 w0
      rw [Tryz.results16]
      refine amGo ?_
      ((try refine Or.inl ?_);refine ⟨_,(hT),.inl rfl,?_⟩;refine amC ?_)
      rw [hb]
      refine amGo ?_
      refine awp_cond amQ (fun hr => ?_) (fun hr => ?_)
      · simp at hr
      refine amGo ?_
      ((try refine Or.inl ?_);refine ⟨_,(hG),amF,?_⟩;refine amC ?_)
      refine amGo ?_
      refine awp_cond amQ (fun hz => ?_) (fun hz => ?_)
      · simp at hz
      refine amGo ?_
      ((try refine Or.inl ?_);refine ⟨_,(h1),.inl rfl,?_⟩;refine amC ?_)
      refine amGo ?_
      (simp only [xe,simprocAttr];refine ⟨[_,_],⟨rfl,rfl,trivial⟩,rfl,Imp.eq ?_⟩)
      rfl
    · skip
      have hG:Does Tryz.prog 49 [prA m s,.sl (.ii nx),.int x] (.imm (.tup [.agg [.b (.sl (.k 2 (prQ m s nx x).1.list)),.b (.sl (.ki 3 (eg3 (prQ m s nx x).1.rows))),.b (.val (.bool true))],.one (.b (.val (.bool false)))])):=by
        have hG2:=hG
        unfold prAv at hG2
        rw [hq] at hG2
        exact hG2
      refine spec_imm Tryz.func16 rfl Tryz.ntmps16 cfOK (fun _ _=>by kernel_rfl) rfl (Nat.le_of_ble_eq_true rfl) ?_
      intro M0 w0
      rw [Tryz.results16]
      refine amGo ?_
      ((try refine Or.inl ?_);refine ⟨_,(hT),.inl rfl,?_⟩;refine amC ?_)
      rw [hb]
      refine amGo ?_
      refine awp_cond amQ (fun hr => ?_) (fun hr => ?_)
      · simp at hr
      refine amGo ?_
      ((try refine Or.inl ?_);refine ⟨_,(hG),amF,?_⟩;refine amC ?_)
      refine amGo ?_
      refine awp_cond amQ (fun hz => ?_) (fun hz => ?_)
      · refine amGo ?_
        (simp only [xe,simprocAttr];refine ⟨[_,_],⟨rfl,rfl,trivial⟩,rfl,Imp.eq ?_⟩)
        rfl
      · simp at hz
end Go.Proofs.YtlhdeofkhajigaaGreat
