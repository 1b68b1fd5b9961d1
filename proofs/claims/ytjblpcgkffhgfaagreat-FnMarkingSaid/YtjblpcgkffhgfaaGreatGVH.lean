/- The law's small functions and PhasesOf, on the machine. Conditions: lists are short. -/
import Derived.Test.YtjblpcgkffhgfaaGreatGCB
import Derived.Test.YtjblpcgkffhgfaaGreatVl
import Derived.Test.YtjblpcgkffhgfaaGreatMarkSz
import Derived.Test.YtjblpcgkffhgfaaGreatGDH
set_option linter.all false
set_option linter.unusedSimpArgs false
set_option linter.unusedVariables false
namespace Go.Proofs.YtjblpcgkffhgfaaGreat
open Go Go.RowKit Am

theorem vHas_d (xs:List Int) (x:Int):Does Tryz.prog 32 [.sl (.ints xs),.int x] (.imm (.bool (xs.contains x))):=by
  refine spec_imm Tryz.func32 rfl Tryz.ntmps32 cfOK (fun _ _=>by kernel_rfl) rfl (Nat.le_of_ble_eq_true rfl) ?_
  intro M0 w0
  rw [Tryz.results32]
  (refine awp_fits 0 rfl fun hf => ?_;simp only [xp,simprocAttr] at hf;simp only [xf,simprocAttr] at hf)
  refine amGo ?_
  refine awp_rounds (α:=Nat) (fun k=>[(5,true,.int k)]) [0,1] (fun _=>[]) (fun k=>k≤xs.length∧∀ y∈xs.take k,x≠y) (fun k=>xs.length-k) 0 (by ((try simp only [xk]);(repeat (refine leK_cons ?_ ?_;first | (exact amE) | rotate_left));(try exact leK_nil rfl);(all_goals (try (simp only [xr,simprocAttr];try refine int_eq1 ?_))))) ⟨Nat.zero_le _,by simp⟩ fun k hk => ?_
  obtain ⟨hk,hp⟩:=hk
  simp only [xr,simprocAttr]
  refine amGo ?_
  refine awp_cond amQ (fun hc => ?_) (fun hc => ?_)
  · have hk':k<xs.length:=by have:=of_decide_eq_true hc;omega
    have hx:xs.getD k 0=xs[k]:=by simp [hk']
    refine amGo ?_
    refine awp_cond amQ (fun hd => ?_) (fun hd => ?_)
    · have hd:=of_decide_eq_true hd
      refine amGo ?_
      (simp only [xe,simprocAttr];refine ⟨_,rfl,rfl,Imp.eq ?_⟩)
      rw [show xs.contains x=true from List.contains_iff_mem.2 (by rw [← hd,hx];exact List.getElem_mem hk')]
    · have hd:=of_decide_eq_false hd
      refine amGo ?_
      refine ⟨k+1,by omega,fun y hy => ?_,by omega,.inl ?_⟩
      · rw [List.take_succ_eq_append_getElem hk',List.mem_append,List.mem_singleton] at hy
        rcases hy with hy | rfl
        · exact hp y hy
        · rw [← hx];exact fun e=>hd e.symm
      · ((try simp only [xk]);(repeat (refine leK_cons ?_ ?_;first | (exact amE) | rotate_left));(try exact leK_nil rfl);(all_goals (try (simp only [xr,simprocAttr];try refine int_eq1 ?_))))
  · have hk':k=xs.length:=by have:=of_decide_eq_false hc;omega
    subst hk'
    rw [List.take_length] at hp
    refine amGo ?_
    (simp only [xe,simprocAttr];refine ⟨_,rfl,rfl,Imp.eq ?_⟩)
    rw [show xs.contains x=false from Bool.eq_false_iff.2 fun h=>hp x (List.contains_iff_mem.1 h) rfl]
theorem vSum_e (xs:List Int) (hl:xs.length≤1000) (hx:∀ k,0≤xs.getD k 0∧xs.getD k 0≤1000000):Does Tryz.prog 35 [.sl (.ints xs)] (.imm (.int xs.sum)):=by
  have hb:∀ k,k≤1000→0≤(xs.take k).sum∧(xs.take k).sum≤1000000*k:=fun k=>by
    induction k with
    | zero=>simp
    | succ k ih =>
      intro hk
      have h1:=ih (by omega)
      have h2:=hx k
      rw [sum_getD]
      omega
  refine spec_imm Tryz.func35 rfl Tryz.ntmps35 cfOK (fun _ _=>by kernel_rfl) rfl (Nat.le_of_ble_eq_true rfl) ?_
  intro M0 w0
  rw [Tryz.results35]
  refine amGo ?_
  refine awp_rounds (α:=Nat) (fun k=>[(4,true,.int k),(3,true,.int (xs.take k).sum)]) [0] (fun _=>[]) (fun k=>k≤xs.length) (fun k=>xs.length-k) 0 (by ((try simp only [xk]);(repeat (refine leK_cons ?_ ?_;first | (exact amE) | rotate_left));(try exact leK_nil rfl);(all_goals (try (simp only [xr,simprocAttr];try refine int_eq1 ?_))))) (Nat.zero_le _) fun k hk => ?_
  have hbk:=hb k (by omega)
  have hbx:=hx k
  have hsk:=sum_getD xs k
  simp only [xr,simprocAttr]
  refine amGo ?_
  refine awp_cond amQ (fun hc => ?_) (fun hc => ?_)
  · have hc:=of_decide_eq_true hc
    have hk':k<xs.length:=by omega
    refine amGo ?_
    refine ⟨k+1,by omega,by omega,.inl ?_⟩
    ((try simp only [xk]);(repeat (refine leK_cons ?_ ?_;first | (exact amE) | rotate_left));(try exact leK_nil rfl);(all_goals (try (simp only [xr,simprocAttr];try refine int_eq1 ?_))))
  · have hc:=of_decide_eq_false hc
    obtain rfl:k=xs.length:=by omega
    refine amGo ?_
    (simp only [xe,simprocAttr];refine ⟨_,rfl,rfl,Imp.eq ?_⟩)
    rw [List.take_length]
theorem vFracs_s (xs:List (List Int)) (hx:∀ x∈xs,x.length=2):Does Tryz.prog 28 [.sl (.k 2 xs),.sl (.k 2 xs)] (.imm (.bool true)):=by
  refine spec_imm Tryz.func28 rfl Tryz.ntmps28 cfOK (fun _ _=>by kernel_rfl) rfl (Nat.le_of_ble_eq_true rfl) ?_
  intro M0 w0
  rw [Tryz.results28]
  (refine awp_fits 0 rfl fun hf => ?_;simp only [xp,simprocAttr] at hf;simp only [xf,simprocAttr] at hf)
  refine amGo ?_
  refine awp_cond amQ (fun hc => ?_) (fun hc => ?_)
  · simp at hc
  refine amGo ?_
  refine awp_rounds (α:=Nat) (fun k=>[(5,true,.int k)]) [0,1] (fun _=>[]) (fun k=>k≤xs.length) (fun k=>xs.length-k) 0 (by ((try simp only [xk]);(repeat (refine leK_cons ?_ ?_;first | (exact amE) | rotate_left));(try exact leK_nil rfl);(all_goals (try (simp only [xr,simprocAttr];try refine int_eq1 ?_))))) (Nat.zero_le _) fun k hk => ?_
  simp only [xr,simprocAttr]
  refine amGo ?_
  refine awp_cond amQ (fun hd => ?_) (fun hd => ?_)
  · have hd:=of_decide_eq_true hd
    have hk':k<xs.length:=by omega
    refine amGo ?_
    refine awp_cond amQ (fun he => ?_) (fun he => ?_)
    · simp at he
    · refine amGo ?_
      refine ⟨k+1,by omega,by omega,.inl ?_⟩
      ((try simp only [xk]);(repeat (refine leK_cons ?_ ?_;first | (exact amE) | rotate_left));(try exact leK_nil rfl);(all_goals (try (simp only [xr,simprocAttr];try refine int_eq1 ?_))))
  · refine amGo ?_
    (simp only [xe,simprocAttr];refine ⟨_,rfl,rfl,Imp.eq ?_⟩)
    rfl
theorem vFracs_n:Does Tryz.prog 28 [.val (.slice none 0 0),.sl (.k 2 [])] (.imm (.bool true)) :=
  Does.args (vFracs_s [] (fun _ h=>by cases h)) fun M us ha=>by
    obtain ⟨u,us',rfl,h1,h2⟩:=args_inv ha
    exact args_cons (nil_av (c := .k 2 []) rfl (fun _ h=>by cases h) h1) h2
theorem vTable_s (xs:List (List Int)):Does Tryz.prog 27 [.sl (.ii xs),.sl (.ii xs)] (.imm (.bool true)):=by
  refine spec_imm Tryz.func27 rfl Tryz.ntmps27 cfOK (fun _ _=>by kernel_rfl) rfl (Nat.le_of_ble_eq_true rfl) ?_
  intro M0 w0
  rw [Tryz.results27]
  (refine awp_fits 0 rfl fun hf => ?_;simp only [xp,simprocAttr] at hf;simp only [xf,simprocAttr] at hf)
  refine amGo ?_
  refine awp_cond amQ (fun hc => ?_) (fun hc => ?_)
  · simp at hc
  refine amGo ?_
  refine awp_rounds (α:=Nat) (fun k=>[(5,true,.int k)]) [0,1] (fun _=>[]) (fun k=>k≤xs.length) (fun k=>xs.length-k) 0 (by ((try simp only [xk]);(repeat (refine leK_cons ?_ ?_;first | (exact amE) | rotate_left));(try exact leK_nil rfl);(all_goals (try (simp only [xr,simprocAttr];try refine int_eq1 ?_))))) (Nat.zero_le _) fun k hk => ?_
  simp only [xr,simprocAttr]
  refine amGo ?_
  refine awp_cond amQ (fun hd => ?_) (fun hd => ?_)
  · have hd:=of_decide_eq_true hd
    have hk':k<xs.length:=by omega
    refine amGo ?_
    ((try refine Or.inl ?_);refine ⟨_,(vInts_d (xs.getD k []) (xs.getD k [])),amF,?_⟩;refine amC ?_)
    refine amGo ?_
    refine awp_cond amQ (fun he => ?_) (fun he => ?_)
    · simp at he
    · refine amGo ?_
      refine ⟨k+1,by omega,by omega,.inl ?_⟩
      ((try simp only [xk]);(repeat (refine leK_cons ?_ ?_;first | (exact amE) | rotate_left));(try exact leK_nil rfl);(all_goals (try (simp only [xr,simprocAttr];try refine int_eq1 ?_))))
  · refine amGo ?_
    (simp only [xe,simprocAttr];refine ⟨_,rfl,rfl,Imp.eq ?_⟩)
    rfl
theorem vTable_n:Does Tryz.prog 27 [.val (.slice none 0 0),.sl (.ii [])] (.imm (.bool true)) :=
  Does.args (vTable_s []) fun M us ha=>by
    obtain ⟨u,us',rfl,h1,h2⟩:=args_inv ha
    exact args_cons (nil_av (c := .ii []) rfl trivial h1) h2
theorem impl_PhasesOf_i (n size:Int) (xs:List Int) (hb:szB n size xs=true):Does Tryz.prog 31 [.int n,.int size,.sl (.ints xs)] (.imm (.tup [.one (.b (.sl (.ints (phI size xs xs.length)))),.one (.b (.val (.bool true)))])):=by
  refine spec_imm Tryz.func31 rfl Tryz.ntmps31 cfOK (fun _ _=>by kernel_rfl) rfl (Nat.le_of_ble_eq_true rfl) ?_
  intro M0 w0
  rw [Tryz.results31]
  refine amGo ?_
  ((try refine Or.inl ?_);refine ⟨_,(isSize_d size),.inl rfl,?_⟩;refine amC ?_)
  refine amGo ?_
  ((try refine Or.inl ?_);refine ⟨_,(fun _=>isRequests_d n xs),.inl rfl,?_⟩;refine amC ?_)
  refine amGo ?_
  rw [szB_bif,hb]
  refine awp_cond amQ (fun hc => ?_) (fun hc => ?_)
  · cases hc
  refine amGo ?_
  ((try refine Or.inl ?_);refine ⟨_,(phasesOf_d size xs (sz_ok hb).len),amF,?_⟩;refine amC ?_)
  refine amGo ?_
  (simp only [xe,simprocAttr];refine ⟨[_,_],⟨rfl,rfl,trivial⟩,rfl,Imp.eq ?_⟩)
  rfl
theorem vAtMost_e (a b:Int×Int) (ha : -100000000≤a.1∧a.1≤100000000∧0≤a.2∧a.2≤100000) (hb : -100000000≤b.1∧b.1≤100000000∧0≤b.2∧b.2≤100000):Does Tryz.prog 36 [.tv (frT a),.tv (frT b)] (.imm (.bool (decide (a.1*b.2≤b.1*a.2)))):=by
  have h1:=mul_bd (x:=a.1) (y:=b.2) (X:=100000000) (Y:=100000) (by omega) (by omega)
  have h2:=mul_bd (x:=b.1) (y:=a.2) (X:=100000000) (Y:=100000) (by omega) (by omega)
  have i1:I64 (a.1*b.2):=⟨by omega,by omega⟩
  have i2:I64 (b.1*a.2):=⟨by omega,by omega⟩
  refine spec_imm Tryz.func36 rfl Tryz.ntmps36 cfOK (fun _ _=>by kernel_rfl) rfl (Nat.le_of_ble_eq_true rfl) ?_
  intro M0 w0
  rw [Tryz.results36]
  refine amGo ?_
  (simp only [xe,simprocAttr];refine ⟨_,rfl,rfl,Imp.eq ?_⟩)
  rfl
theorem vInts_n:Does Tryz.prog 29 [.val (.slice none 0 0),.sl (.ints [])] (.imm (.bool true)):=Does.args (vInts_d [] []) fun M us h=>by
  obtain ⟨u,us',rfl,h1,h2⟩:=args_inv h
  exact args_cons (nil_av (c := .ints []) rfl trivial h1) h2
end Go.Proofs.YtjblpcgkffhgfaaGreat
/- The law on random marking, on the machine, from what its calls give. Conditions: those that each names. -/
set_option linter.all false
set_option linter.unusedSimpArgs false
set_option linter.unusedVariables false
namespace Go.Proofs.YtjblpcgkffhgfaaGreat
open Go Go.RowKit Am

theorem walkMu_big {bs:List Int} (h:65536<(bs.length:Int)):Does Tryz.prog 4 [.lf (.b (.raw bs))] (.imm (.bool true)):=by
  refine spec_imm Tryz.func4 rfl Tryz.ntmps4 cfOK (fun _ _=>by kernel_rfl) rfl (Nat.le_of_ble_eq_true rfl) ?_
  intro M0 w0
  rw [Tryz.results4]
  refine amGo ?_
  ((try refine Or.inl ?_);refine ⟨_,(vBig_d bs),.inl rfl,?_⟩;refine amC ?_)
  refine amGo ?_
  refine awp_cond amQ (fun h0 => ?_) (fun h0 => ?_)
  · refine amGo ?_
    (simp only [xe,simprocAttr];refine ⟨_,rfl,rfl,Imp.eq ?_⟩)
    rfl
  · simp at h0;omega
set_option maxHeartbeats 4000000 in
theorem walkMu_bad {bs:List Int} (hbig:¬ 65536<(bs.length:Int)) {n k:Int} {xs:List Int} (hD:Does Tryz.prog 18 [.lf (.b (.raw bs))] (.imm (dphR n k xs)))
    (c1:Does Tryz.prog 19 [.int n,.int k,.sl (.ints xs)] (.imm (.tup [.one (.b (.val (.slice none 0 0))),.one (.b (.val (.slice none 0 0))),.one (.b (.val (.bool false)))])))
    (c2:Does Tryz.prog 20 [.int n,.int k,.sl (.ints xs)] (.imm (.tup [.one (.b (.sl (.ii []))),.one (.b (.sl (.k 2 []))),.one (.b (.val (.bool false)))])))
    (c3:Does Tryz.prog 21 [.int n,.int k,.sl (.ints xs)] (.imm (.tup [frT (0,0),blT false])))
    (c4:Does Tryz.prog 22 [.int n,.int k,.sl (.ints xs)] (.imm (.tup [frT (0,0),blT false])))
    (c5:Does Tryz.prog 23 [.int n,.int k,.sl (.ints xs)] (.imm (.tup [.one (.b (.val (.slice none 0 0))),.one (.b (.val (.bool false)))])))
    (c6:Does Tryz.prog 24 [.int n,.int k,.sl (.ints xs)] (.imm (.tup [.one (.b (.sl (.ints []))),.one (.b (.val (.bool false)))])))
    (c7:Does Tryz.prog 25 [.int n,.int k,.sl (.ints xs)] (.imm (.tup [frT (0,0),blT false])))
    (c8:Does Tryz.prog 26 [.int n,.int k,.sl (.ints xs)] (.imm (.tup [frT (0,0),blT false]))):Does Tryz.prog 4 [.lf (.b (.raw bs))] (.imm (.bool true)):=by
  refine spec_imm Tryz.func4 rfl Tryz.ntmps4 cfOK (fun _ _=>by kernel_rfl) rfl (Nat.le_of_ble_eq_true rfl) ?_
  intro M0 w0
  rw [Tryz.results4]
  refine amGo ?_
  ((try refine Or.inl ?_);refine ⟨_,(vBig_d bs),.inl rfl,?_⟩;refine amC ?_)
  refine amGo ?_
  refine awp_cond amQ (fun e0 => ?_) (fun e0 => ?_)
  · exact absurd (of_decide_eq_true e0) hbig
  refine amGo ?_
  ((try refine Or.inl ?_);refine ⟨_,hD,amF,?_⟩;refine amC ?_)
  refine amGo ?_
  ((try refine Or.inl ?_);refine ⟨_,c1,.inl rfl,?_⟩;refine amC ?_)
  refine amGo ?_
  ((try refine Or.inl ?_);refine ⟨_,c2,amF,?_⟩;refine amC ?_)
  refine amGo ?_
  ((try refine Or.inl ?_);refine ⟨_,c3,.inl rfl,?_⟩;refine amC ?_)
  refine amGo ?_
  ((try refine Or.inl ?_);refine ⟨_,c4,.inl rfl,?_⟩;refine amC ?_)
  refine amGo ?_
  ((try refine Or.inl ?_);refine ⟨_,c5,.inl rfl,?_⟩;refine amC ?_)
  refine amGo ?_
  ((try refine Or.inl ?_);refine ⟨_,c6,amF,?_⟩;refine amC ?_)
  refine amGo ?_
  ((try refine Or.inl ?_);refine ⟨_,c7,.inl rfl,?_⟩;refine amC ?_)
  refine amGo ?_
  ((try refine Or.inl ?_);refine ⟨_,c8,.inl rfl,?_⟩;refine amC ?_)
  refine amGo ?_
  refine awp_cond amQ (fun e1 => ?_) (fun e1 => ?_)
  · simp at e1
  refine amGo ?_
  ((try refine Or.inl ?_);refine ⟨_,vTable_n,.inl rfl,?_⟩;refine amC ?_)
  refine amGo ?_
  ((try refine Or.inl ?_);refine ⟨_,vFracs_n,.inl rfl,?_⟩;refine amC ?_)
  refine amGo ?_
  ((try refine Or.inl ?_);refine ⟨_,vInts_n,.inl rfl,?_⟩;refine amC ?_)
  refine amGo ?_
  refine awp_cond amQ (fun e2 => ?_) (fun e2 => ?_)
  · simp at e2
  refine amGo ?_
  refine awp_cond amQ (fun e3 => ?_) (fun e3 => ?_)
  · refine amGo ?_
    (simp only [xe,simprocAttr];refine ⟨_,rfl,rfl,Imp.eq ?_⟩)
    rfl
  · simp at e3
set_option maxRecDepth 20000 in
set_option maxHeartbeats 8000000 in
theorem walkMu_ok {bs:List Int} (hbig:¬ 65536<(bs.length:Int)) {n k:Int} {xs:List Int} {K O:List (List Int)} {F B Hf:Int×Int} {C P:List Int} {fw:Int} (hD:Does Tryz.prog 18 [.lf (.b (.raw bs))] (.imm (dphR n k xs)))
    (c1:Does Tryz.prog 19 [.int n,.int k,.sl (.ints xs)] (.imm (.tup [.one (.b (.sl (.ii K))),.one (.b (.sl (.k 2 O))),.one (.b (.val (.bool true)))])))
    (c2:Does Tryz.prog 20 [.int n,.int k,.sl (.ints xs)] (.imm (.tup [.one (.b (.sl (.ii K))),.one (.b (.sl (.k 2 O))),.one (.b (.val (.bool true)))])))
    (c3:Does Tryz.prog 21 [.int n,.int k,.sl (.ints xs)] (.imm (.tup [frT F,blT true])))
    (c4:Does Tryz.prog 22 [.int n,.int k,.sl (.ints xs)] (.imm (.tup [frT F,blT true])))
    (c5:Does Tryz.prog 23 [.int n,.int k,.sl (.ints xs)] (.imm (.tup [.one (.b (.sl (.ints C))),.one (.b (.val (.bool true)))])))
    (c6:Does Tryz.prog 24 [.int n,.int k,.sl (.ints xs)] (.imm (.tup [.one (.b (.sl (.ints C))),.one (.b (.val (.bool true)))])))
    (c7:Does Tryz.prog 25 [.int n,.int k,.sl (.ints xs)] (.imm (.tup [frT B,blT true])))
    (c8:Does Tryz.prog 26 [.int n,.int k,.sl (.ints xs)] (.imm (.tup [frT B,blT true])))
    (c9:Does Tryz.prog 30 [.sl (.k 2 O)] (.imm (.tup [frT (1,1),blT true])))
    (c10:Does Tryz.prog 31 [.int n,.int k,.sl (.ints xs)] (.imm (.tup [.one (.b (.sl (.ints P))),.one (.b (.val (.bool true)))])))
    (c11:Does Tryz.prog 33 [.int k,.int n,.sl (.ints xs)] (.imm (.tup [.one (.b (.val (.int .i64 fw))),.one (.b (.val (.bool true)))])))
    (c12:Does Tryz.prog 34 [.int k] (.imm (.tup [frT Hf,blT true])))
    (hO:∀ x∈O,x.length=2) (hx:xs.length≤60) (hK:K.length≤720) (hCP:C.length=P.length) (hP0:0<P.length→0≤P.getD (P.length-1) 0∧P.getD (P.length-1) 0≤xs.length)
    (hPK:0<P.length→∀ i,i<K.length→∀ j:Nat,P.getD (P.length-1) 0≤(j:Int)→j<xs.length→(K.getD i []).contains (xs.getD j 0)=true)
    (hCl:C.length≤1000) (hCb:∀ k,0≤C.getD k 0∧C.getD k 0≤1000000) (hCs:C.sum≤2*fw) (hfw:0≤fw∧fw≤60)
    (hF : -100000000≤F.1∧F.1≤100000000∧0≤F.2∧F.2≤100000) (hB : -100000000≤B.1∧B.1≤100000000∧0≤B.2∧B.2≤100000) (hH : -100000000≤Hf.1∧Hf.1≤100000000∧0≤Hf.2∧Hf.2≤100000)
    (r1:F.1*B.2≤B.1*F.2) (r2:B.1*Hf.2≤2*Hf.1*fw*B.2) (r3:fw*F.2≤F.1):Does Tryz.prog 4 [.lf (.b (.raw bs))] (.imm (.bool true)):=by
  have j1:=mul_bd (x:=B.1) (y:=Hf.2) (X:=100000000) (Y:=100000) (by omega) (by omega)
  have j2:=mul_bd (x:=2*Hf.1) (y:=fw) (X:=200000000) (Y:=60) (by omega) (by omega)
  have j3:=mul_bd (x:=2*Hf.1*fw) (y:=B.2) (X:=12000000000) (Y:=100000) (by omega) (by omega)
  have j4:=mul_bd (x:=fw) (y:=F.2) (X:=60) (Y:=100000) (by omega) (by omega)
  have i1:I64 (B.1*Hf.2):=⟨by omega,by omega⟩
  have i2:I64 (2*Hf.1*fw):=⟨by omega,by omega⟩
  have i3:I64 (2*Hf.1*fw*B.2):=⟨by omega,by omega⟩
  have i4:I64 (fw*F.2):=⟨by omega,by omega⟩
  refine spec_imm Tryz.func4 rfl Tryz.ntmps4 cfOK (fun _ _=>by kernel_rfl) rfl (Nat.le_of_ble_eq_true rfl) ?_
  intro M0 w0
  rw [Tryz.results4]
  refine amGo ?_
  ((try refine Or.inl ?_);refine ⟨_,(vBig_d bs),.inl rfl,?_⟩;refine amC ?_)
  refine amGo ?_
  refine awp_cond amQ (fun e0 => ?_) (fun e0 => ?_)
  · exact absurd (of_decide_eq_true e0) hbig
  refine amGo ?_
  ((try refine Or.inl ?_);refine ⟨_,hD,amF,?_⟩;refine amC ?_)
  refine amGo ?_
  ((try refine Or.inl ?_);refine ⟨_,c1,amF,?_⟩;refine amC ?_)
  refine amGo ?_
  ((try refine Or.inl ?_);refine ⟨_,c2,amF,?_⟩;refine amC ?_)
  refine amGo ?_
  ((try refine Or.inl ?_);refine ⟨_,c3,.inl rfl,?_⟩;refine amC ?_)
  refine amGo ?_
  ((try refine Or.inl ?_);refine ⟨_,c4,.inl rfl,?_⟩;refine amC ?_)
  refine amGo ?_
  ((try refine Or.inl ?_);refine ⟨_,c5,amF,?_⟩;refine amC ?_)
  refine amGo ?_
  ((try refine Or.inl ?_);refine ⟨_,c6,amF,?_⟩;refine amC ?_)
  refine amGo ?_
  ((try refine Or.inl ?_);refine ⟨_,c7,.inl rfl,?_⟩;refine amC ?_)
  refine amGo ?_
  ((try refine Or.inl ?_);refine ⟨_,c8,.inl rfl,?_⟩;refine amC ?_)
  refine amGo ?_
  refine awp_cond amQ (fun e1 => ?_) (fun e1 => ?_)
  · simp at e1
  refine amGo ?_
  ((try refine Or.inl ?_);refine ⟨_,(vTable_s K),.inl rfl,?_⟩;refine amC ?_)
  refine amGo ?_
  ((try refine Or.inl ?_);refine ⟨_,(vFracs_s O hO),.inl rfl,?_⟩;refine amC ?_)
  refine amGo ?_
  ((try refine Or.inl ?_);refine ⟨_,(vInts_d C C),.inl rfl,?_⟩;refine amC ?_)
  refine amGo ?_
  refine awp_cond amQ (fun e2 => ?_) (fun e2 => ?_)
  · simp at e2
  refine amGo ?_
  refine awp_cond amQ (fun e3 => ?_) (fun e3 => ?_)
  · simp at e3
  refine amGo ?_
  ((try refine Or.inl ?_);refine ⟨_,c9,.inl rfl,?_⟩;refine amC ?_)
  refine amGo ?_
  ((try refine Or.inl ?_);refine ⟨_,c10,amF,?_⟩;refine amC ?_)
  refine amGo ?_
  refine awp_rounds (α:=Nat) (fun i=>[(28,true,.int i)]) [3,4,5,6,12,16,20,24,26] (fun _=>[.box [.b (.val (.int .i64 F.1)),.b (.val (.int .i64 F.2))],.box [.b (.val (.int .i64 F.1)),.b (.val (.int .i64 F.2))],.box [.b (.val (.int .i64 B.1)),.b (.val (.int .i64 B.2))],.box [.b (.val (.int .i64 B.1)),.b (.val (.int .i64 B.2))],.box [.b (.val (.int .i64 1)),.b (.val (.int .i64 1))]]) (fun i=>i≤K.length) (fun i=>K.length-i) 0 (by ((try simp only [xk]);(repeat (refine leK_cons ?_ ?_;first | (exact amE) | rotate_left));(refine leK_nil ?_;exact (rfl));(all_goals (try (simp only [xr,simprocAttr];try refine int_eq1 ?_))))) (Nat.zero_le _) fun i hi => ?_
  simp only [xr,simprocAttr]
  refine amGo ?_
  refine awp_cond amQ (fun e4 => ?_) (fun e4 => ?_)
  · have e4:0<P.length∧i<K.length:=by
      simp only [Bool.cond_eq_ite,decide_eq_true_eq] at e4
      split at e4
      · exact ⟨by omega,by have:=of_decide_eq_true e4;omega⟩
      · cases e4
    obtain ⟨p1,p2⟩:=hP0 e4.1
    have ep:((P.length:Int)-1).toNat=P.length-1:=by omega
    obtain ⟨p0,hp0⟩:∃ p0:Nat,P.getD (P.length-1) 0=(p0:Int):=⟨(P.getD (P.length-1) 0).toNat,by omega⟩
    refine amGo ?_
    rw [ep,hp0]
    refine awp_rounds (α:=Nat) (fun j=>[(29,true,.int j)]) [3,4,5,6,12,16,20,24,26,28] (fun _=>[.box [.b (.val (.int .i64 F.1)),.b (.val (.int .i64 F.2))],.box [.b (.val (.int .i64 F.1)),.b (.val (.int .i64 F.2))],.box [.b (.val (.int .i64 B.1)),.b (.val (.int .i64 B.2))],.box [.b (.val (.int .i64 B.1)),.b (.val (.int .i64 B.2))],.box [.b (.val (.int .i64 1)),.b (.val (.int .i64 1))]]) (fun j=>p0≤j∧j≤xs.length) (fun j=>xs.length-j) p0 (by ((try simp only [xk]);(repeat (refine leK_cons ?_ ?_;first | (exact amE) | rotate_left));(refine leK_nil ?_;exact (rfl));(all_goals (try (simp only [xr,simprocAttr];try refine int_eq1 ?_))))) ⟨Nat.le_refl _,by omega⟩ fun j hj => ?_
    simp only [xr,simprocAttr]
    refine amGo ?_
    refine awp_cond amQ (fun e5 => ?_) (fun e5 => ?_)
    · have hj2:j<xs.length:=by have:=of_decide_eq_true e5;omega
      refine amGo ?_
      ((try refine Or.inl ?_);refine ⟨_,(vHas_d (K.getD i []) (xs.getD j 0)),amF,?_⟩;refine amC ?_)
      rw [hPK e4.1 i e4.2 j (by omega) hj2]
      refine amGo ?_
      refine awp_cond amQ (fun e6 => ?_) (fun e6 => ?_)
      · simp at e6
      refine amGo ?_
      refine ⟨j+1,by omega,by omega,by omega,.inr ⟨5,Nat.le_of_ble_eq_true rfl,leT_of ?_ rfl rfl rfl⟩⟩
      ((try simp only [xk]);(repeat (refine leK_cons ?_ ?_;first | (exact amE) | rotate_left));(refine leK_nil ?_;exact (rfl));(all_goals (try (simp only [xr,simprocAttr];try refine int_eq1 ?_))))
    · refine amGo ?_
      refine ⟨i+1,by omega,by omega,.inr ⟨5,Nat.le_of_ble_eq_true rfl,leT_of ?_ rfl rfl rfl⟩⟩
      ((try simp only [xk]);(repeat (refine leK_cons ?_ ?_;first | (exact amE) | rotate_left));(refine leK_nil ?_;exact (rfl));(all_goals (try (simp only [xr,simprocAttr];try refine int_eq1 ?_))))
  refine amGo ?_
  ((try refine Or.inl ?_);refine ⟨_,c11,.inl rfl,?_⟩;refine amC ?_)
  refine amGo ?_
  ((try refine Or.inl ?_);refine ⟨_,c12,.inl rfl,?_⟩;refine amC ?_)
  refine amGo ?_
  ((try refine Or.inl ?_);refine ⟨_,(fun _=>vSum_e C hCl hCb),amF,?_⟩;refine amC ?_)
  refine amGo ?_
  refine awp_cond amQ (fun e7 => ?_) (fun e7 => ?_)
  · simp [hCP] at e7
    omega
  refine amGo ?_
  ((try refine Or.inl ?_);refine ⟨_,(vAtMost_e F B hF hB),amF,?_⟩;refine amC ?_)
  refine amGo ?_
  (simp only [xe,simprocAttr];refine ⟨_,rfl,rfl,Imp.eq ?_⟩)
  simp [r1,r2,r3]
end Go.Proofs.YtjblpcgkffhgfaaGreat
