/- Random marking: one request, on the machine: the program's. Conditions: those that each names. -/
import Derived.Test.YtjblpcgkffhgfaaGreatDelM
import Derived.Test.YtjblpcgkffhgfaaGreatGMP
import Derived.Test.YtjblpcgkffhgfaaGreatGA2
set_option linter.all false
set_option linter.unusedSimpArgs false
set_option linter.unusedVariables false
namespace Go.Proofs.YtjblpcgkffhgfaaGreat
open Go Go.RowKit Am

theorem rq2_d (x y:Int):Does Tryz.prog 152 [.int x,.lf (.ip [.val (.int .i64 y)] 0)] (.imm (.bool (decide (x=y)))):=by
  refine spec_imm Tryz.func152 rfl Tryz.ntmps152 cfOK (fun _ _=>by kernel_rfl) rfl (Nat.le_of_ble_eq_true rfl) ?_
  intro M0 w0
  rw [Tryz.results152]
  refine amGo ?_
  (simp only [xe,simprocAttr];refine ⟨_,rfl,rfl,Imp.eq ?_⟩)
  rfl
theorem faultH_next {item:Int} {h:HL} {i:Nat} (hi:i<h.length):faultH item (h.take (i+1))=faultH item (h.take i)+(if item∈(h.getD i ([],0)).1 then 0 else (h.getD i ([],0)).2):=by
  unfold faultH missH
  rw [take_getD hi ([],0),List.filter_append,sumH_app]
  congr 1
  by_cases h1:item∈(h.getD i ([],0)).1
  · rw [if_pos h1,List.filter_cons,if_neg (by simp only [decide_eq_true_eq];exact fun h2=>h2 h1)]
    simp [sumH]
  · rw [if_neg h1,List.filter_cons,if_pos (decide_eq_true h1)]
    simp [sumH]
theorem faultH_bd {size:Nat} {item:Int} {m:List Int} {h:HL} (H:RqOK size item m h) (i:Nat):faultH item (h.take i)≤720:=by
  have h1:=faultH_le item (h.take i)
  have h2:sumH h=sumH (h.take i)+sumH (h.drop i):=by rw [← sumH_app,List.take_append_drop]
  have:=H.sum
  omega
theorem stepH_acc {size:Nat} {item:Int} {m:List Int} {h:HL}:accH size item m h h.length 0=stepH size item m h:=by
  rw [accH_zero,List.take_length]
  rfl
theorem add_fx (size:Int) (f:Nat) (M:List Int) (h:HL) (x:List Int) (n:Nat) (ho:h.Pairwise fun p q=>lexB p.1 q.1=true) (hl:h.length≤720) (hb:∀ p∈h,p.2≤720) (hn:n≤720):DoesH Tryz.prog 148 [.lf (.ptr 0 0),.sl (.ints x),frA (fr7 n)] [true]
    ([.box [.b (.val (.int .i64 size)),.own 1,.own 2,.own 3,.b (.val (.int .i64 (fr7 f).1)),.b (.val (.int .i64 (fr7 f).2)),.b (.val (.bool true))],.row 3 (.ints M),.row 24 (.ii (kH h)),.row 40 (.k 2 (oH h))]) (.tup [])
    ([.box [.b (.val (.int .i64 size)),.own 1,.own 2,.own 3,.b (.val (.int .i64 (fr7 f).1)),.b (.val (.int .i64 (fr7 f).2)),.b (.val (.bool true))],.row 3 (.ints M),.row 24 (.ii (kH (gainH h x n))),.row 40 (.k 2 (oH (gainH h x n)))]):=by
  have h:=add_f size f M h x n ho (by omega) (fun p hp=>by have:=hb p hp;omega) (by omega)
  unfold mkO mkC at h
  simpa only [List.cons_append,List.nil_append,List.append_nil] using h
theorem add_ox (size:Int) (f:Nat) (M:List Int) (h:HL) (x:List Int) (n:Nat) (ho:h.Pairwise fun p q=>lexB p.1 q.1=true) (hl:h.length≤720) (hb:∀ p∈h,p.2≤720) (hn:n≤720):DoesH Tryz.prog 148 [.lf (.ptr 0 0),.lf (.own 4),frA (fr7 n)] [true]
    ([.box [.b (.val (.int .i64 size)),.own 1,.own 2,.own 3,.b (.val (.int .i64 (fr7 f).1)),.b (.val (.int .i64 (fr7 f).2)),.b (.val (.bool true))],.row 3 (.ints M),.row 24 (.ii (kH h)),.row 40 (.k 2 (oH h)),.row 3 (.ints x)]) (.tup [])
    ([.box [.b (.val (.int .i64 size)),.own 1,.own 2,.own 3,.b (.val (.int .i64 (fr7 f).1)),.b (.val (.int .i64 (fr7 f).2)),.b (.val (.bool true))],.row 3 (.ints M),.row 24 (.ii (kH (gainH h x n))),.row 40 (.k 2 (oH (gainH h x n))),.gone]):=by
  have h:=add_o size f M h x n ho (by omega) (fun p hp=>by have:=hb p hp;omega) (by omega)
  unfold mkO mkC at h
  simpa only [List.cons_append,List.nil_append,List.append_nil] using h
set_option maxHeartbeats 8000000 in
theorem request_h (size f:Nat) (M:List Int) (h:HL) (item:Int) (hM:M.length≤1000) (H:RqOK size item (mkR size M item) h) (hf:f≤45000):DoesH Tryz.prog 117 [.lf (.ptr 0 0),.int item] [true] (mkO size f M h) (.tup []) (mkO size (f+faultH item h) (mkR size M item) (stepH size item (mkR size M item) h)):=by
  have hkl:=kH_len h
  have hol:=oH_len h
  have hlen:=H.len
  have hs6:=H.s6
  have hml:(mkR size M item).length≤1001:=by
    unfold mkR
    split
    · omega
    · split
      · simp
      · simp;omega
  unfold mkO mkC
  refine spec_hB Tryz.func117 rfl Tryz.ntmps117 cfOK (fun _ _=>by kernel_rfl) rfl rfl rfl ?_
  intro M0 w0 S φ0
  rw [Tryz.results117]
  refine amGo ?_
  ((try refine Or.inl ?_);refine ⟨_,(contains_d M item),.inl rfl,?_⟩;refine amC ?_)
  refine amGo ?_
  refine awp_mid [] [1,2] [.box [.b (.val (.int .i64 size)),.own 1,.own 2,.own 3,.b (.val (.int .i64 (fr7 f).1)),.b (.val (.int .i64 (fr7 f).2)),.b (.val (.bool true))],.row 3 (.ints (mkR size M item)),.row 24 (.ii (kH h)),.row 40 (.k 2 (oH h)),.box [.ptr 0 0]] ?_ ?_
  · refine awp_cond amQ (fun h0 => ?_) (fun h0 => ?_)
    · have h0:¬ M.contains item=true:=by simpa using h0
      refine amGo ?_
      refine awp_cond amQ (fun h1 => ?_) (fun h1 => ?_)
      · have h1:=of_decide_eq_true h1
        have e:mkR size M item=[]++[item]:=by unfold mkR;rw [if_neg h0,if_pos h1]
        rw [e]
        refine amGo ?_
        (refine awp_frz 1 rfl ?_;simp only [xz,simprocAttr])
        (refine awp_nil 0 1 3 (.ints []) rfl rfl rfl (by first | trivial | (intro _ h;cases h)) ?_;simp only [xr,simprocAttr])
        (refine awp_mv 1 5 rfl rfl (by decide) rfl rfl ?_;simp only [xm,simprocAttr])
        refine awp_mvR 1 6 ?_
        (refine amB ?_;refine awp_anyG 1 [(7,[6,1]),(10,[0])] [0,1,6] [(4,[1,6]),(7,[0]),(10,[])] ?_;refine amNG ?_)
        simp only [xm,simprocAttr]
        refine .inr ⟨5,Nat.le_of_ble_eq_true rfl,leT_of ?_ rfl rfl rfl⟩
        ((try simp only [xk]);(repeat (refine leK_cons ?_ ?_;first | (exact amE) | rotate_left));(refine leK_nil ?_;exact (by rfl));(all_goals (try (simp only [xr,simprocAttr];try refine int_eq1 ?_))))
      · have h1:=of_decide_eq_false h1
        have e:mkR size M item=M++[item]:=by unfold mkR;rw [if_neg h0,if_neg h1]
        rw [e]
        refine amGo ?_
        refine awp_mvR 1 5 ?_
        (refine amB ?_;refine awp_anyG 1 [(7,[5,1]),(10,[0])] [0,1,5] [(4,[1,5]),(7,[0]),(10,[])] ?_;refine amNG ?_)
        simp only [xm,simprocAttr]
        refine .inr ⟨5,Nat.le_of_ble_eq_true rfl,leT_of ?_ rfl rfl rfl⟩
        ((try simp only [xk]);(repeat (refine leK_cons ?_ ?_;first | (exact amE) | rotate_left));(refine leK_nil ?_;exact (by rfl));(all_goals (try (simp only [xr,simprocAttr];try refine int_eq1 ?_))))
    · have h0:M.contains item=true:=by simpa using h0
      have e:mkR size M item=M:=if_pos h0
      rw [e]
      refine amGo ?_
      refine .inl ?_
      ((try simp only [xk]);(repeat (refine leK_cons ?_ ?_;first | (exact amE) | rotate_left));(try exact leK_nil rfl);(all_goals (try (simp only [xr,simprocAttr];try refine int_eq1 ?_))))
  · generalize hMd:mkR size M item=Md at H hml
    simp only [xr,simprocAttr]
    refine amGo ?_
    (refine amB ?_;refine awp_anyG 0 [(4,[0]),(7,[0])] [0] [(4,[]),(7,[])] ?_;refine amNG ?_)
    (refine awp_frz 2 rfl ?_;simp only [xz,simprocAttr])
    (refine awp_frz 3 rfl ?_;simp only [xz,simprocAttr])
    (refine awp_nil 0 2 24 (.ii []) rfl rfl rfl (by first | trivial | (intro _ h;cases h)) ?_;simp only [xr,simprocAttr])
    (refine awp_mv 2 5 rfl rfl (by decide) rfl rfl ?_;simp only [xm,simprocAttr])
    (refine awp_nil 0 3 40 (.k 2 []) rfl rfl rfl (by first | trivial | (intro _ h;cases h)) ?_;simp only [xr,simprocAttr])
    (refine awp_mv 3 6 rfl rfl (by decide) rfl rfl ?_;simp only [xm,simprocAttr])
    refine amGo ?_
    refine awp_rounds (α:=Nat) (fun i=>[(61,true,.int i)]) [1,2,5,59,60] (fun i=>[.box [.b (.val (.int .i64 size)),.own 1,.own 2,.own 3,.b (.val (.int .i64 (fr7 (f+faultH item (h.take i))).1)),.b (.val (.int .i64 (fr7 (f+faultH item (h.take i))).2)),.b (.val (.bool true))],.row 3 (.ints Md),.row 24 (.ii (kH (accH size item Md h i 0))),.row 40 (.k 2 (oH (accH size item Md h i 0))),.box [.ptr 0 0],.gone,.gone]) (fun i=>i≤h.length) (fun i=>h.length-i) 0 (by ((try simp only [xk]);(repeat (refine leK_cons ?_ ?_;first | (exact amE) | rotate_left));(refine leK_nil ?_;exact (by simp [accH_zero,allH,gainsH,kH,oH,faultH,missH,sumH]));(all_goals (try (simp only [xr,simprocAttr];try refine int_eq1 ?_))))) (Nat.zero_le _) fun i hi => ?_
    have hfb:=faultH_bd H i
    simp only [xr,simprocAttr]
    refine amGo ?_
    refine awp_cond amQ (fun hc => ?_) (fun hc => ?_)
    · have hc:=of_decide_eq_true hc
      have hi':i<h.length:=by omega
      have hka:=kH_at hi'
      have hoa:=oH_at hi'
      have hmem:h.getD i ([],0)∈h:=by rw [getD_inL hi'];exact List.getElem_mem _
      obtain ⟨hx6,hxs⟩:=H.el _ hmem
      have hdv:=H.dv _ hmem
      have hnx:=fun k=>accH_next (size:=size) (item:=item) (m:=Md) (h:=h) (i:=i) (k:=k)
      have hen:=accH_end (size:=size) (item:=item) (m:=Md) (h:=h) (i:=i) (k:=(partsH size item Md (h.getD i ([],0))).length) hi' (Nat.le_refl _)
      have hfn:=faultH_next (item:=item) hi'
      have hac:=fun k=>accH_ok H hi' k
      have hN:=Nat.le_trans (mem_sum hmem) H.sum
      generalize hp:h.getD i ([],0)=p at hka hoa hx6 hxs hdv hnx hen hfn hN
      obtain ⟨x,N⟩:=p
      simp only at hka hoa hx6 hxs hdv hnx hen hfn hN
      refine amGo ?_
      rw [hka]
      ((try refine Or.inl ?_);refine ⟨_,(contains_d x item),.inl rfl,?_⟩;refine amC ?_)
      refine amGo ?_
      refine awp_cond amQ (fun hd => ?_) (fun hd => ?_)
      · have hd:item∈x:=by simpa using hd
        rw [if_pos hd] at hfn
        have hpt:partsH size item Md (x,N)=[(x,N)]:=if_pos hd
        rw [hpt] at hnx hen
        have hn0:=hnx 0 (by simp)
        have ha0:=hac 0
        (refine amB ?_;refine awp_anyGL 6 0 [] [] [] rfl ?_;simp only [List.take_succ_cons,List.take_zero];refine amNG ?_)
        rw [hoa,show (frM N).getD 0 0=(fr7 N).1 from rfl,show (frM N).getD 1 0=(fr7 N).2 from rfl]
        (refine .inr (.inl (callW_a [0,1,2,3] (add_fx size (f+faultH item (h.take i)) Md (accH size item Md h i 0) x N ha0.1 ha0.2.1 ha0.2.2 hN) rfl rfl rfl rfl ⟨rfl,rfl,rfl,rfl,trivial⟩ rfl rfl rfl rfl ?_));refine amC ?_)
        refine amGo ?_
        refine ⟨i+1,by omega,by omega,.inl ?_⟩
        have hn1:accH size item Md h (i+1) 0=gainH (accH size item Md h i 0) x N:=hen.symm.trans hn0
        rw [hfn,hn1,Nat.add_zero]
        ((try simp only [xk]);(repeat (refine leK_cons ?_ ?_;first | (exact amE) | rotate_left));(refine leK_nil ?_;exact (by rfl));(all_goals (try (simp only [xr,simprocAttr];try refine int_eq1 ?_))))
      · have hd:item ∉ x:=by simpa using hd
        rw [if_neg hd] at hfn
        refine amGo ?_
        (refine amB ?_;refine awp_anyM [7] 12 [] (by kernel_rfl) (by kernel_rfl) (by kernel_rfl) (by kernel_rfl) (by kernel_rfl) ?_;refine amM ?_)
        rw [hoa,show (frM N).getD 0 0=(fr7 N).1 from rfl,show (frM N).getD 1 0=(fr7 N).2 from rfl]
        ((try refine Or.inl ?_);refine ⟨_,(addF_d (f+faultH item (h.take i)) N (by omega) (by omega)),amF,?_⟩;refine amC ?_)
        (refine amB ?_;refine awp_anyG 0 [(12,[0]),(15,[0])] [0] [(6,[]),(12,[]),(15,[])] ?_;refine amNG ?_)
        refine amGo ?_
        refine awp_cond amQ (fun he => ?_) (fun he => ?_)
        · have he:=of_decide_eq_true he
          have hlt:x.length<size:=by omega
          have hpt:partsH size item Md (x,N)=[(putL x item,N)]:=by
            unfold partsH
            rw [if_neg hd,if_pos hlt]
          rw [hpt] at hnx hen
          have hn0:=hnx 0 (by simp)
          have ha0:=hac 0
          have hrs:rs (x++[item])=putL x item:=by rw [rs_snoc,rs_id hxs]
          (refine amB ?_;refine awp_anyGL 11 3 [(2,[8]),(5,[9,8]),(6,[10])] [8,9,10] [(2,[9,10]),(5,[10]),(6,[8])] rfl ?_;simp only [List.take_succ_cons,List.take_zero];refine amNG ?_)
          (refine .inr (.inl ⟨_,_,callG_b (cln_a x (by omega)) rfl rfl rfl rfl rfl rfl,?_⟩);refine amTG ?_)
          refine amNG ?_
          (refine .inr (.inl ⟨_,_,callG_b (rising_h (x++[item]) (by simp;omega)) rfl rfl rfl rfl rfl rfl,?_⟩);refine amTG ?_)
          rw [hrs,hoa,show (frM N).getD 0 0=(fr7 N).1 from rfl,show (frM N).getD 1 0=(fr7 N).2 from rfl]
          (refine .inr (.inl (callW_a [0,1,2,3,10] (add_ox size (f+faultH item (h.take i)+N) Md (accH size item Md h i 0) (putL x item) N ha0.1 ha0.2.1 ha0.2.2 hN) rfl rfl rfl rfl ⟨rfl,rfl,rfl,rfl,rfl,trivial⟩ rfl rfl rfl rfl ?_));refine amC ?_)
          refine amGo ?_
          refine ⟨i+1,by omega,by omega,.inr ⟨7,Nat.le_of_ble_eq_true rfl,leT_of ?_ rfl rfl rfl⟩⟩
          have hn1:accH size item Md h (i+1) 0=gainH (accH size item Md h i 0) (putL x item) N:=hen.symm.trans hn0
          rw [hfn,hn1,← Nat.add_assoc]
          ((try simp only [xk]);(repeat (refine leK_cons ?_ ?_;first | (exact amE) | rotate_left));(refine leK_nil ?_;exact (by rfl));(all_goals (try (simp only [xr,simprocAttr];try refine int_eq1 ?_))))
        · have he:=of_decide_eq_false he
          have hlt:¬ x.length<size:=by omega
          obtain ⟨hm0,hmd⟩:=hdv hd hlt
          have hml2:(opn x Md).length≤6:=Nat.le_trans (List.length_filter_le _ _) hx6
          have hpt:partsH size item Md (x,N)=(opn x Md).map fun y=>(putL (wo x y) item,N / (opn x Md).length):=by
            unfold partsH
            rw [if_neg hd,if_neg hlt]
          have hpl:(partsH size item Md (x,N)).length=(opn x Md).length:=by rw [hpt,List.length_map]
          have hpk:∀ k,k<(opn x Md).length→(partsH size item Md (x,N)).getD k ([],0)=(putL (wo x ((opn x Md).getD k 0)) item,N / (opn x Md).length):=fun k hk=>by
            rw [hpt,getD_inL (by rw [List.length_map];exact hk),getD_inL hk,List.getElem_map]
          have hNd:N / (opn x Md).length≤720:=Nat.le_trans (Nat.div_le_self _ _) hN
          rw [hpl] at hnx hen
          clear hpt
          refine amGo ?_
          (refine .inr (.inl (callW_b (cln_a x (by omega)) rfl rfl rfl rfl rfl rfl rfl ?_));refine amC ?_)
          refine amGo ?_
          (refine .inr (.inl (callW_a [8,4,0,1,2,3] (delM_h size (.val (.int .i64 (fr7 (f+faultH item (h.take i)+N)).1)) (.val (.int .i64 (fr7 (f+faultH item (h.take i)+N)).2)) (.val (.bool true)) Md _ _ x (by omega)) rfl rfl rfl rfl ⟨rfl,rfl,rfl,rfl,rfl,rfl,trivial⟩ rfl rfl rfl rfl ?_));refine amC ?_)
          (refine awp_frz 8 rfl ?_;simp only [xz,simprocAttr])
          refine amGo ?_
          rw [hoa,show (frM N).getD 0 0=(fr7 N).1 from rfl,show (frM N).getD 1 0=(fr7 N).2 from rfl]
          ((try refine Or.inl ?_);refine ⟨_,(divF_d N (opn x Md).length (by omega) hm0 hml2 hmd),amF,?_⟩;refine amC ?_)
          refine amGo ?_
          (refine amB ?_;refine awp_anyG 0 [(10,[0])] [0] [(4,[]),(10,[])] ?_;refine amNG ?_)
          refine amGo ?_
          refine awp_rounds (α:=Nat) (fun k=>[(148,true,.int k)]) [1,2,5,7,10,11,59,60,61,146,147] (fun k=>[.box [.b (.val (.int .i64 size)),.own 1,.own 2,.own 3,.b (.val (.int .i64 (fr7 (f+faultH item (h.take i)+N)).1)),.b (.val (.int .i64 (fr7 (f+faultH item (h.take i)+N)).2)),.b (.val (.bool true))],.row 3 (.ints Md),.row 24 (.ii (kH (accH size item Md h i k))),.row 40 (.k 2 (oH (accH size item Md h i k))),.box [.ptr 0 0],.gone,.gone,.box [.b (.val (.int .i64 (fr7 (f+faultH item (h.take i)+N)).1)),.b (.val (.int .i64 (fr7 (f+faultH item (h.take i)+N)).2))],.gone,.box [.b (.val (.int .i64 (fr7 (N / (opn x Md).length)).1)),.b (.val (.int .i64 (fr7 (N / (opn x Md).length)).2))]]) (fun k=>k≤(opn x Md).length) (fun k=>(opn x Md).length-k) 0 (by ((try simp only [xk]);(repeat (refine leK_cons ?_ ?_;first | (exact amE) | rotate_left));(refine leK_nil ?_;exact (by rfl));(all_goals (try (simp only [xr,simprocAttr];try refine int_eq1 ?_))))) (Nat.zero_le _) fun k hk => ?_
          have hak:=hac k
          simp only [xr,simprocAttr]
          refine amGo ?_
          refine awp_cond amQ (fun hg => ?_) (fun hg => ?_)
          · have hg:=of_decide_eq_true hg
            have hk':k<(opn x Md).length:=by omega
            have hkn:=hnx k hk'
            rw [hpk k hk'] at hkn
            generalize hy:(opn x Md).getD k 0=y at hkn
            have hwo:(x.filter fun z => !decide (z=y))=wo x y:=by
              unfold wo
              refine List.filter_congr fun z _ => ?_
              by_cases e:z=y<;>simp [e]
            have hwl:(wo x y).length≤6:=Nat.le_trans (List.length_filter_le _ _) hx6
            have hrs:rs (wo x y++[item])=putL (wo x y) item:=by rw [rs_snoc,rs_id (xs:=wo x y) (hxs.filter _)]
            refine amG1 ?_
            rw [hy]
            (refine awp_frzB 10 rfl rfl ?_;simp only [xzb,simprocAttr])
            refine amGo ?_
            (refine .inr (.inl (callW_b (cln_a x (by omega)) rfl rfl rfl rfl rfl rfl rfl ?_));refine amC ?_)
            refine amGo ?_
            (refine .inr (.inl (callW_a [11] (deleteFunc_h x _ [.ip [.val (.int .i64 y)] 0] (fun z=>decide (z=y)) (by omega) rfl (fun j hj=>rq2_d _ y) (fun _ _=>by kernel_rfl)) rfl rfl rfl rfl ⟨rfl,trivial⟩ rfl rfl rfl rfl ?_));refine amC ?_)
            rw [hwo]
            refine amGo ?_
            (refine amB ?_;refine awp_anyGL 7 2 [(4,[12,11]),(5,[13])] [11,12,13] [(4,[13]),(5,[11])] rfl ?_;simp only [List.take_succ_cons,List.take_zero];refine amNG ?_)
            (refine .inr (.inl ⟨_,_,callG_b (rising_h (wo x y++[item]) (by simp;omega)) rfl rfl rfl rfl rfl rfl,?_⟩);refine amTG ?_)
            rw [hrs]
            (refine .inr (.inl (callW_a [0,1,2,3,13] (add_ox size (f+faultH item (h.take i)+N) Md (accH size item Md h i k) (putL (wo x y) item) (N / (opn x Md).length) hak.1 hak.2.1 hak.2.2 hNd) rfl rfl rfl rfl ⟨rfl,rfl,rfl,rfl,rfl,trivial⟩ rfl rfl rfl rfl ?_));refine amC ?_)
            refine amGo ?_
            refine ⟨k+1,by omega,by omega,.inr ⟨10,Nat.le_of_ble_eq_true rfl,leT_of ?_ rfl rfl rfl⟩⟩
            rw [hkn]
            ((try simp only [xk]);(repeat (refine leK_cons ?_ ?_;first | (exact amE) | rotate_left));(refine leK_nil ?_;exact (by rfl));(all_goals (try (simp only [xr,simprocAttr];try refine int_eq1 ?_))))
          · have hg:=of_decide_eq_false hg
            obtain rfl:k=(opn x Md).length:=by omega
            refine amGo ?_
            refine ⟨i+1,by omega,by omega,.inr ⟨7,Nat.le_of_ble_eq_true rfl,leT_of ?_ rfl rfl rfl⟩⟩
            rw [hfn,← hen,← Nat.add_assoc]
            ((try simp only [xk]);(repeat (refine leK_cons ?_ ?_;first | (exact amE) | rotate_left));(refine leK_nil ?_;exact (by rfl));(all_goals (try (simp only [xr,simprocAttr];try refine int_eq1 ?_))))
    · have hc:=of_decide_eq_false hc
      obtain rfl:i=h.length:=by omega
      rw [stepH_acc,List.take_length]
      refine amGo ?_
      (simp only [ends_normal,ends_ret];exact retH_0 [0,1,2,3] rfl ⟨rfl,rfl,rfl,rfl,trivial⟩ rfl rfl rfl)
end Go.Proofs.YtjblpcgkffhgfaaGreat
