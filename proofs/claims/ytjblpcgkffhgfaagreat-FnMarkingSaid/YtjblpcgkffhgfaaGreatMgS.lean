/- Random marking, on the machine: the reference's. Conditions: those that each names. -/
import Derived.Test.YtjblpcgkffhgfaaGreatMgG
import Derived.Test.YtjblpcgkffhgfaaGreatMD
import Derived.Test.YtjblpcgkffhgfaaGreatAm18
set_option linter.all false
set_option linter.unusedSimpArgs false
set_option linter.unusedVariables false
namespace Go.Proofs.YtjblpcgkffhgfaaGreat
open Go Go.RowKit Am

abbrev hT (h:HL):TV := .agg [.b (.sl (.ii (kH h))),.b (.sl (.k 2 (oH h)))]
theorem faultH_nx {item:Int} {h:HL} {i:Nat} (hi:i<h.length):faultH item (h.take (i+1))=faultH item (h.take i)+(if item∈(h.getD i ([],0)).1 then 0 else (h.getD i ([],0)).2):=by
  unfold faultH missH
  rw [take_getD hi ([],0),List.filter_append,sumH_app]
  congr 1
  by_cases h1:item∈(h.getD i ([],0)).1
  · rw [if_pos h1,List.filter_cons,if_neg (by simp only [decide_eq_true_eq];exact fun h2=>h2 h1)]
    simp [sumH]
  · rw [if_neg h1,List.filter_cons,if_pos (decide_eq_true h1)]
    simp [sumH]
theorem faultH_b {size:Nat} {item:Int} {m:List Int} {h:HL} (H:RqOK size item m h) (i:Nat):faultH item (h.take i)≤720:=by
  have h1:=faultH_le item (h.take i)
  have h2:sumH h=sumH (h.take i)+sumH (h.drop i):=by rw [← sumH_app,List.take_append_drop]
  have:=H.sum
  omega
theorem step_acc {size:Nat} {item:Int} {m:List Int} {h:HL}:accH size item m h h.length 0=stepH size item m h:=by
  rw [accH_zero,List.take_length]
  rfl
set_option maxHeartbeats 8000000 in
theorem l11Step_d (size:Nat) (item:Int) (m:List Int) (h:HL) (H:RqOK size item m h):Does Tryz.prog 121 [hA h,.int size,.int item,.sl (.ints m)] (.imm (.tup [hT (stepH size item m h),frT (fr7 (faultH item h))])):=by
  have hkl:=kH_len h
  have hol:=oH_len h
  have hlen:=H.len
  have hs6:=H.s6
  refine spec_imm Tryz.func121 rfl Tryz.ntmps121 cfOK (fun _ _=>by kernel_rfl) rfl (Nat.le_of_ble_eq_true rfl) ?_
  intro M0 w0
  rw [Tryz.results121]
  refine amGo ?_
  (refine awp_nil 3 0 24 (.ii []) rfl rfl rfl (by first | trivial | (intro _ h;cases h)) ?_;simp only [xr,simprocAttr])
  (refine awp_frz 5 rfl ?_;simp only [xz,simprocAttr])
  (refine awp_nil 3 1 40 (.k 2 []) rfl rfl rfl (by first | trivial | (intro _ h;cases h)) ?_;simp only [xr,simprocAttr])
  (refine awp_frz 6 rfl ?_;simp only [xz,simprocAttr])
  refine awp_rounds (α:=Nat) (fun i=>[(12,true,.int i)]) [1,2,3,4,8,9,10,11] (fun i=>[.box [.b (.sl (.ii (kH h))),.b (.sl (.k 2 (oH h)))],.box [.b (.val (.slice none 0 0)),.b (.val (.slice none 0 0))],.box [.b (.val (.int .i64 0)),.b (.val (.int .i64 0))],.box [.b (.sl (.ii (kH (accH size item m h i 0)))),.b (.sl (.k 2 (oH (accH size item m h i 0))))],.box [.b (.val (.int .i64 (fr7 (faultH item (h.take i))).1)),.b (.val (.int .i64 (fr7 (faultH item (h.take i))).2))],.gone,.gone]) (fun i=>i≤h.length) (fun i=>h.length-i) 0 (by ((try simp only [xk]);(repeat (refine leK_cons ?_ ?_;first | (exact amE) | rotate_left));(refine leK_nil ?_;exact (by rw [show fr7 (faultH item (h.take 0))=(0,1) from fr7_zero];simp [accH_zero,allH,gainsH,kH,oH]));(all_goals (try (simp only [xr,simprocAttr];try refine int_eq1 ?_))))) (Nat.zero_le _) fun i hi => ?_
  have hfb:=faultH_b H i
  simp only [xr,simprocAttr]
  refine amGo ?_
  refine awp_cond amQ (fun hc => ?_) (fun hc => ?_)
  · have hc:=of_decide_eq_true hc
    have hi':i<h.length:=by omega
    have hka:=kH_at hi'
    have hoa:=oH_at hi'
    have hmem:h.getD i ([],0)∈h:=by rw [getD_inL hi'];exact List.getElem_mem _
    obtain ⟨hx6,hxs⟩:=H.el _ hmem
    have hdv:=H.dv _ hmem
    have hnx:=fun k=>accH_next (size:=size) (item:=item) (m:=m) (h:=h) (i:=i) (k:=k)
    have hen:=accH_end (size:=size) (item:=item) (m:=m) (h:=h) (i:=i) (k:=(partsH size item m (h.getD i ([],0))).length) hi' (Nat.le_refl _)
    have hfn:=faultH_nx (item:=item) hi'
    have hac:=fun k=>accH_ok H hi' k
    have hN:=Nat.le_trans (mem_sum hmem) H.sum
    generalize hp:h.getD i ([],0)=p at hka hoa hx6 hxs hdv hnx hen hfn hN
    obtain ⟨x,N⟩:=p
    simp only at hka hoa hx6 hxs hdv hnx hen hfn hN
    refine amGo ?_
    rw [hka]
    ((try refine Or.inl ?_);refine ⟨_,(l1Has_d x item),.inl rfl,?_⟩;refine amC ?_)
    refine amGo ?_
    refine awp_cond amQ (fun hd => ?_) (fun hd => ?_)
    · have hd:item∈x:=by simpa using hd
      rw [if_pos hd] at hfn
      have hpt:partsH size item m (x,N)=[(x,N)]:=if_pos hd
      rw [hpt] at hnx hen
      have hn0:=hnx 0 (by simp)
      have ha0:=hac 0
      (refine amB ?_;refine awp_anyM [3] 8 [0] (by kernel_rfl) (by kernel_rfl) (by kernel_rfl) (by kernel_rfl) (by kernel_rfl) ?_;refine amM ?_)
      rw [hoa,show (frM N).getD 0 0=(fr7 N).1 from rfl,show (frM N).getD 1 0=(fr7 N).2 from rfl]
      ((try refine Or.inl ?_);refine ⟨_,(l11Gain_d (accH size item m h i 0) x N ha0.2.1 ha0.2.2 hN),amF,?_⟩;refine amC ?_)
      refine amGo ?_
      refine ⟨i+1,by omega,by omega,.inl ?_⟩
      have hn1:accH size item m h (i+1) 0=gainH (accH size item m h i 0) x N:=hen.symm.trans hn0
      rw [hfn,hn1,Nat.add_zero]
      ((try simp only [xk]);(repeat (refine leK_cons ?_ ?_;first | (exact amE) | rotate_left));(refine leK_nil ?_;exact (by rfl));(all_goals (try (simp only [xr,simprocAttr];try refine int_eq1 ?_))))
    · have hd:item ∉ x:=by simpa using hd
      rw [if_neg hd] at hfn
      (refine amB ?_;refine awp_anyM [7] 10 [] (by kernel_rfl) (by kernel_rfl) (by kernel_rfl) (by kernel_rfl) (by kernel_rfl) ?_;refine amM ?_)
      rw [hoa,show (frM N).getD 0 0=(fr7 N).1 from rfl,show (frM N).getD 1 0=(fr7 N).2 from rfl]
      ((try refine Or.inl ?_);refine ⟨_,(l2addF_d (faultH item (h.take i)) N (by omega) (by omega)),amF,?_⟩;refine amC ?_)
      refine amGo ?_
      refine awp_cond amQ (fun he => ?_) (fun he => ?_)
      · have he:=of_decide_eq_true he
        have hlt:x.length<size:=by omega
        have hpt:partsH size item m (x,N)=[(putL x item,N)]:=by
          unfold partsH
          rw [if_neg hd,if_pos hlt]
        rw [hpt] at hnx hen
        have hn0:=hnx 0 (by simp)
        have ha0:=hac 0
        (refine amB ?_;refine awp_anyM [3] 10 [0] (by kernel_rfl) (by kernel_rfl) (by kernel_rfl) (by kernel_rfl) (by kernel_rfl) ?_;refine amM ?_)
        ((try refine Or.inl ?_);refine ⟨_,(l1Put_d x item (by omega)),amF,?_⟩;refine amC ?_)
        rw [hoa,show (frM N).getD 0 0=(fr7 N).1 from rfl,show (frM N).getD 1 0=(fr7 N).2 from rfl]
        ((try refine Or.inl ?_);refine ⟨_,(l11Gain_d (accH size item m h i 0) (putL x item) N ha0.2.1 ha0.2.2 hN),amF,?_⟩;refine amC ?_)
        refine amGo ?_
        refine ⟨i+1,by omega,by omega,.inr ⟨7,Nat.le_of_ble_eq_true rfl,leT_of ?_ rfl rfl rfl⟩⟩
        have hn1:accH size item m h (i+1) 0=gainH (accH size item m h i 0) (putL x item) N:=hen.symm.trans hn0
        rw [hfn,hn1]
        ((try simp only [xk]);(repeat (refine leK_cons ?_ ?_;first | (exact amE) | rotate_left));(refine leK_nil ?_;exact (by rfl));(all_goals (try (simp only [xr,simprocAttr];try refine int_eq1 ?_))))
      · have he:=of_decide_eq_false he
        have hlt:¬ x.length<size:=by omega
        obtain ⟨hm0,hmd⟩:=hdv hd hlt
        have hml2:(opn x m).length≤6:=Nat.le_trans (List.length_filter_le _ _) hx6
        have hpt:partsH size item m (x,N)=(opn x m).map fun y=>(putL (wo x y) item,N / (opn x m).length):=by
          unfold partsH
          rw [if_neg hd,if_neg hlt]
        have hpl:(partsH size item m (x,N)).length=(opn x m).length:=by rw [hpt,List.length_map]
        have hpk:∀ k,k<(opn x m).length→(partsH size item m (x,N)).getD k ([],0)=(putL (wo x ((opn x m).getD k 0)) item,N / (opn x m).length):=fun k hk=>by
          rw [hpt,getD_inL (by rw [List.length_map];exact hk),getD_inL hk,List.getElem_map]
        have hNd:N / (opn x m).length≤720:=Nat.le_trans (Nat.div_le_self _ _) hN
        rw [hpl] at hnx hen
        clear hpt
        refine amGo ?_
        ((try refine Or.inl ?_);refine ⟨_,(l11Open_d x m (by omega)),amF,?_⟩;refine amC ?_)
        refine amGo ?_
        refine awp_rounds (α:=Nat) (fun k=>[(17,true,.int k)]) [1,2,3,4,8,9,10,11,12,13,16] (fun k=>[.box [.b (.sl (.ii (kH h))),.b (.sl (.k 2 (oH h)))],.box [.b (.val (.slice none 0 0)),.b (.val (.slice none 0 0))],.box [.b (.val (.int .i64 0)),.b (.val (.int .i64 0))],.box [.b (.sl (.ii (kH (accH size item m h i k)))),.b (.sl (.k 2 (oH (accH size item m h i k))))],.box [.b (.val (.int .i64 (fr7 (faultH item (h.take i)+N)).1)),.b (.val (.int .i64 (fr7 (faultH item (h.take i)+N)).2))],.gone,.gone,.box [.b (.val (.int .i64 (fr7 (faultH item (h.take i)+N)).1)),.b (.val (.int .i64 (fr7 (faultH item (h.take i)+N)).2))]]) (fun k=>k≤(opn x m).length) (fun k=>(opn x m).length-k) 0 (by ((try simp only [xk]);(repeat (refine leK_cons ?_ ?_;first | (exact amE) | rotate_left));(refine leK_nil ?_;exact (by rfl));(all_goals (try (simp only [xr,simprocAttr];try refine int_eq1 ?_))))) (Nat.zero_le _) fun k hk => ?_
        have hak:=hac k
        simp only [xr,simprocAttr]
        refine amGo ?_
        refine awp_cond amQ (fun hg => ?_) (fun hg => ?_)
        · have hg:=of_decide_eq_true hg
          have hk':k<(opn x m).length:=by omega
          have hkn:=hnx k hk'
          rw [hpk k hk'] at hkn
          have hwl:(wo x ((opn x m).getD k 0)).length≤6:=Nat.le_trans (List.length_filter_le _ _) hx6
          refine amGo ?_
          rw [hoa,show (frM N).getD 0 0=(fr7 N).1 from rfl,show (frM N).getD 1 0=(fr7 N).2 from rfl]
          ((try refine Or.inl ?_);refine ⟨_,(l2divF_d N (opn x m).length (by omega) hm0 hml2 hmd),amF,?_⟩;refine amC ?_)
          refine amGo ?_
          (refine amB ?_;refine awp_anyM [3] 11 [0] (by kernel_rfl) (by kernel_rfl) (by kernel_rfl) (by kernel_rfl) (by kernel_rfl) ?_;refine amM ?_)
          ((try refine Or.inl ?_);refine ⟨_,(l11Drop_d x ((opn x m).getD k 0) (by omega)),amF,?_⟩;refine amC ?_)
          ((try refine Or.inl ?_);refine ⟨_,(l1Put_d (wo x ((opn x m).getD k 0)) item (by omega)),amF,?_⟩;refine amC ?_)
          ((try refine Or.inl ?_);refine ⟨_,(l11Gain_d (accH size item m h i k) (putL (wo x ((opn x m).getD k 0)) item) (N / (opn x m).length) hak.2.1 hak.2.2 hNd),amF,?_⟩;refine amC ?_)
          refine amGo ?_
          refine ⟨k+1,by omega,by omega,.inr ⟨8,Nat.le_of_ble_eq_true rfl,leT_of ?_ rfl rfl rfl⟩⟩
          rw [hkn]
          ((try simp only [xk]);(repeat (refine leK_cons ?_ ?_;first | (exact amE) | rotate_left));(refine leK_nil ?_;exact (by rfl));(all_goals (try (simp only [xr,simprocAttr];try refine int_eq1 ?_))))
        · have hg:=of_decide_eq_false hg
          obtain rfl:k=(opn x m).length:=by omega
          refine amGo ?_
          refine ⟨i+1,by omega,by omega,.inr ⟨7,Nat.le_of_ble_eq_true rfl,leT_of ?_ rfl rfl rfl⟩⟩
          rw [hfn,← hen]
          ((try simp only [xk]);(repeat (refine leK_cons ?_ ?_;first | (exact amE) | rotate_left));(refine leK_nil ?_;exact (by rfl));(all_goals (try (simp only [xr,simprocAttr];try refine int_eq1 ?_))))
  · have hc:=of_decide_eq_false hc
    obtain rfl:i=h.length:=by omega
    rw [step_acc,List.take_length]
    (refine amB ?_;refine awp_anyG 0 [(2,[1]),(3,[2])] [1,2] [(2,[2]),(3,[1])] ?_;refine amNG ?_)
    refine amGo ?_
    (simp only [xec,simprocAttr];refine ⟨[_,_],⟨⟨amK,rfl⟩,⟨amK,rfl⟩,trivial⟩,rfl,Imp.eq ?_⟩)
    rfl
/-! ### a sequence -/
theorem phL_s (size:Int) (xs:List Int) (i:Nat):phL size xs (i+1)=if phL size xs i=[]∨size<((rs (prt ((phL size xs i).getLastD 0) (i+1) xs)).length:Int) then phL size xs i++[i] else phL size xs i:=rfl
theorem phL_in {size:Int} {xs:List Int} {i:Nat}:∀ {k:Nat},i+1≤k→(i∈phL size xs k↔i∈phL size xs (i+1))
  | 0,h=>by omega
  | k+1,h=>by
    rcases Nat.lt_or_ge i k with h1 | h1
    · rw [← phL_in (k:=k) (by omega),phL_s size xs k]
      split
      · rw [List.mem_append,List.mem_singleton]
        exact ⟨fun h2=>h2.elim id fun h3=>by omega,.inl⟩
      · exact Iff.rfl
    · obtain rfl:k=i:=by omega
      exact Iff.rfl
/-- where the phase of the i-th request begins -/
def phF (size:Int) (xs:List Int) (i:Nat):Nat:=(phL size xs i).getLastD 0
theorem phF_new {size:Int} {xs:List Int} {i:Nat} (hi:i<xs.length) (h:(phI size xs xs.length).contains (i:Int)=true):phF size xs (i+1)=i:=by
  have h1:i∈phL size xs xs.length:=by
    have:(i:Int)∈phI size xs xs.length:=by simpa using h
    unfold phI at this
    obtain ⟨j,hj,e⟩:=List.mem_map.1 this
    have:j=i:=by omega
    rwa [← this]
  rw [phL_in (by omega)] at h1
  unfold phF
  rw [phL_s] at h1 ⊢
  split
  · rw [getLastD_snoc]
  · rename_i hn
    rw [if_neg hn] at h1
    have:=phL_mem i i h1
    omega
theorem phF_old {size:Int} {xs:List Int} {i:Nat} (hi:i<xs.length) (h:(phI size xs xs.length).contains (i:Int)=false):phF size xs (i+1)=phF size xs i:=by
  have h1:i ∉ phL size xs (i+1):=fun h2=>by
    rw [← phL_in (k:=xs.length) (by omega)] at h2
    have:(i:Int)∈phI size xs xs.length:=List.mem_map.2 ⟨i,h2,rfl⟩
    rw [List.contains_iff_mem.2 this] at h
    cases h
  unfold phF
  rw [phL_s] at h1 ⊢
  split
  · rename_i hn
    rw [if_pos hn] at h1
    simp at h1
  · rfl
theorem phF_le {size:Int} {xs:List Int} (i:Nat):phF size xs (i+1)≤i:=getLastD_le fun x hx=>by have:=phL_mem (i+1) x hx;omega
set_option maxHeartbeats 8000000 in
theorem l11Mark_d (n:Int) (size:Nat) (xs:List Int) (hb:szB n size xs=true):Does Tryz.prog 65 [.int size,.sl (.ints xs)] (.imm (.tup [hT (hR size xs xs.length),frT (fr7 (fR size xs xs.length))])):=by
  have hs:=sz_ok hb
  have h1:1≤size:=by have:=hs.s1;omega
  have h2:size≤6:=by have:=hs.s2;omega
  have hxl:=hs.len
  have hpl:=phI_len size xs xs.length
  have hpn:=phL_len (size:=size) (xs:=xs) xs.length
  refine spec_imm Tryz.func65 rfl Tryz.ntmps65 cfOK (fun _ _=>by kernel_rfl) rfl (Nat.le_of_ble_eq_true rfl) ?_
  intro M0 w0
  rw [Tryz.results65]
  refine amGo ?_
  (refine .inr (.inl (callW_b (l4Phases_h size xs hxl) rfl rfl rfl rfl rfl rfl rfl ?_));refine amC ?_)
  (refine awp_frzT 3 rfl ?_;simp only [xz,simprocAttr])
  (refine awp_frz 6 rfl ?_;simp only [xz,simprocAttr])
  refine amGo ?_
  refine awp_rounds (α:=Nat) (fun i=>[(10,true,.int i),(9,true,.int (phF size xs i))]) [0,1,4,5,6,7,8] (fun i=>[.box [.b (.val (.slice none 0 0)),.b (.val (.slice none 0 0))],.box [.b (.val (.int .i64 0)),.b (.val (.int .i64 0))],.gone,.gone,.box [.b (.sl (.ii (kH (hR size xs i)))),.b (.sl (.k 2 (oH (hR size xs i))))],.box [.b (.val (.int .i64 (fr7 (fR size xs i)).1)),.b (.val (.int .i64 (fr7 (fR size xs i)).2))],.gone]) (fun i=>i≤xs.length) (fun i=>xs.length-i) 0 (by ((try simp only [xk]);(repeat (refine leK_cons ?_ ?_;first | (exact amE) | rotate_left));(refine leK_nil ?_;exact (by rw [show fr7 (fR size xs 0)=(0,1) from fr7_zero,show oH (hR size xs 0)=[[(fr7 720).1,(fr7 720).2]] from rfl,fr7_one];rfl));(all_goals (try (simp only [xr,simprocAttr];try refine int_eq1 ?_))))) (Nat.zero_le _) fun i hi => ?_
  have hfk:=fR_le (size:=size) (xs:=xs) h1 h2 i hi
  simp only [xr,simprocAttr]
  refine amGo ?_
  refine awp_cond amQ (fun hc => ?_) (fun hc => ?_)
  · have hc:=of_decide_eq_true hc
    have hi':i<xs.length:=by omega
    have hok:=prM_ok h1 h2 hi'
    have hst:=prM_step (size:=size) hi'
    have hfl:=phF_le (size:=size) (xs:=xs) i
    have hfb:=faultH_b hok (hR size xs i).length
    rw [List.take_length] at hfb
    have hfs:fR size xs (i+1)=fR size xs i+faultH (xs.getD i 0) (hR size xs i):=rfl
    have hpr:(xs.take i).drop (phF size xs (i+1))=prM size xs i:=rfl
    refine amGo ?_
    ((try refine Or.inl ?_);refine ⟨_,(l1Has_d (phI size xs xs.length) i),.inl rfl,?_⟩;refine amC ?_)
    refine amGo ?_
    refine awp_mid [(9,true,.int (phF size xs (i+1)))] [0,1,4,5,6,7,8,10] [.box [.b (.val (.slice none 0 0)),.b (.val (.slice none 0 0))],.box [.b (.val (.int .i64 0)),.b (.val (.int .i64 0))],.gone,.gone,.box [.b (.sl (.ii (kH (hR size xs i)))),.b (.sl (.k 2 (oH (hR size xs i))))],.box [.b (.val (.int .i64 (fr7 (fR size xs i)).1)),.b (.val (.int .i64 (fr7 (fR size xs i)).2))],.gone] ?_ ?_
    · refine awp_cond amQ (fun hd => ?_) (fun hd => ?_)
      · rw [phF_new hi' hd]
        refine amGo ?_
        refine .inl ?_
        ((try simp only [xk]);(repeat (refine leK_cons ?_ ?_;first | (exact amE) | rotate_left));(try exact leK_nil rfl);(all_goals (try (simp only [xr,simprocAttr];try refine int_eq1 ?_))))
      · rw [phF_old hi' hd]
        refine amGo ?_
        refine .inl ?_
        ((try simp only [xk]);(repeat (refine leK_cons ?_ ?_;first | (exact amE) | rotate_left));(try exact leK_nil rfl);(all_goals (try (simp only [xr,simprocAttr];try refine int_eq1 ?_))))
    · simp only [xr,simprocAttr]
      refine amGo ?_
      (refine amB ?_;refine awp_anyG 2 [(14,[7]),(15,[8]),(16,[7]),(17,[8])] [7,8] [(14,[8]),(15,[7]),(16,[8]),(17,[7])] ?_;refine amNG ?_)
      rw [hpr]
      ((try refine Or.inl ?_);refine ⟨_,(l11Step_d size (xs.getD i 0) (prM size xs i) (hR size xs i) hok),amF,?_⟩;refine amTG ?_)
      rw [hst]
      refine amGo ?_
      ((try refine Or.inl ?_);refine ⟨_,(l2addF_d (fR size xs i) (faultH (xs.getD i 0) (hR size xs i)) (by omega) (by omega)),amF,?_⟩;refine amC ?_)
      rw [← hfs]
      refine amGo ?_
      refine ⟨i+1,by omega,by omega,.inr ⟨7,Nat.le_of_ble_eq_true rfl,leT_of ?_ rfl rfl rfl⟩⟩
      ((try simp only [xk]);(repeat (refine leK_cons ?_ ?_;first | (exact amE) | rotate_left));(refine leK_nil ?_;exact (by rfl));(all_goals (try (simp only [xr,simprocAttr];try refine int_eq1 ?_))))
  · have hc:=of_decide_eq_false hc
    obtain rfl:i=xs.length:=by omega
    (refine amB ?_;refine awp_anyG 0 [(2,[0]),(3,[1])] [0,1] [(2,[1]),(3,[0])] ?_;refine amNG ?_)
    refine amGo ?_
    (simp only [xec,simprocAttr];refine ⟨[_,_],⟨⟨amK,rfl⟩,⟨amK,rfl⟩,trivial⟩,rfl,Imp.eq ?_⟩)
    rfl
end Go.Proofs.YtjblpcgkffhgfaaGreat
