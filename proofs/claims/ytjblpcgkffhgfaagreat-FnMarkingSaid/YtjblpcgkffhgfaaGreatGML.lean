/- Random marking behind a sequence, on the machine: the program's. Conditions: those that each names. -/
import Derived.Test.YtjblpcgkffhgfaaGreatMgR
import Derived.Test.YtjblpcgkffhgfaaGreatGCB
import Derived.Test.YtjblpcgkffhgfaaGreatOwnT
import Derived.Test.YtjblpcgkffhgfaaGreatAmC
import Derived.Test.YtjblpcgkffhgfaaGreatMgS
import Derived.Test.YtjblpcgkffhgfaaGreatMarkSz
set_option linter.all false
set_option linter.unusedSimpArgs false
set_option linter.unusedVariables false
namespace Go.Proofs.YtjblpcgkffhgfaaGreat
open Go Go.RowKit Am

theorem request_x (size f:Nat) (M:List Int) (h:HL) (item:Int) (hM:M.length≤1000) (H:RqOK size item (mkR size M item) h) (hf:f≤45000):DoesH Tryz.prog 117 [.lf (.ptr 0 0),.int item] [true]
    [.box [.b (.val (.int .i64 size)),.own 1,.own 2,.own 3,.b (.val (.int .i64 (fr7 f).1)),.b (.val (.int .i64 (fr7 f).2)),.b (.val (.bool true))],.row 3 (.ints M),.row 24 (.ii (kH h)),.row 40 (.k 2 (oH h))] (.tup [])
    [.box [.b (.val (.int .i64 size)),.own 1,.own 2,.own 3,.b (.val (.int .i64 (fr7 (f+faultH item h)).1)),.b (.val (.int .i64 (fr7 (f+faultH item h)).2)),.b (.val (.bool true))],.row 3 (.ints (mkR size M item)),.row 24 (.ii (kH (stepH size item (mkR size M item) h))),.row 40 (.k 2 (oH (stepH size item (mkR size M item) h)))]:=by
  have h:=request_h size f M h item hM H hf
  unfold mkO mkC at h
  exact h
set_option maxHeartbeats 4000000 in
theorem marking_h (n:Int) (size:Nat) (xs:List Int) (hb:szB n size xs=true):DoesH Tryz.prog 62 [.int n,.int size,.sl (.ints xs)] [] [] (.tup [.one (.ptr 0 0),.one (.b (.val (.bool true)))])
    [.box [.b (.val (.int .i64 size)),.own 1,.own 2,.own 3,.b (.val (.int .i64 (fr7 (fR size xs xs.length)).1)),.b (.val (.int .i64 (fr7 (fR size xs xs.length)).2)),.b (.val (.bool true))],.row 3 (.ints (mkM size xs xs.length)),.row 24 (.ii (kH (hR size xs xs.length))),.row 40 (.k 2 (oH (hR size xs xs.length)))]:=by
  have hs:=sz_ok hb
  have h1:1≤size:=by have:=hs.s1;omega
  have h2:size≤6:=by have:=hs.s2;omega
  have hxl:=hs.len
  refine spec_hB Tryz.func62 rfl Tryz.ntmps62 cfOK (fun _ _=>by kernel_rfl) rfl rfl rfl ?_
  intro M0 w0 S φ0
  rw [Tryz.results62]
  refine amGo ?_
  ((try refine Or.inl ?_);refine ⟨_,(isSize_d (size:Int)),.inl rfl,?_⟩;refine amC ?_)
  refine amGo ?_
  ((try refine Or.inl ?_);refine ⟨_,(fun _=>isRequests_d n xs),.inl rfl,?_⟩;refine amC ?_)
  refine amGo ?_
  rw [szB_bif,hb]
  refine awp_cond amQ (fun hc => ?_) (fun hc => ?_)
  · cases hc
  (refine amB ?_;refine awp_regO [false,false,false,false,true] ?_;refine amN ?_)
  (refine awp_cut 1 (0) (.ii [[]]) (.ints []) rfl (by first | (show _=List.length _;simp;done) | (show _=List.length _;omega) | exact amX) rfl ?_;simp only [xr,simprocAttr])
  (refine awp_frz 4 rfl ?_;simp only [xz,simprocAttr])
  (refine awp_cutE 1 rfl amT rfl ?_;simp only [xr,simprocAttr])
  (refine awp_nil 3 1 3 (.ints []) rfl rfl rfl (by first | trivial | (intro _ h;cases h)) ?_;simp only [xr,simprocAttr])
  refine amGo ?_
  refine awp_rounds (α:=Nat) (fun k=>[(30,true,.int k)]) [8,28,29] (fun k=>[.gone,.row 24 (.ii (kH (hR size xs k))),.row 40 (.k 2 (oH (hR size xs k))),.box [.b (.val (.int .i64 size)),.own 5,.own 1,.own 2,.b (.val (.int .i64 (fr7 (fR size xs k)).1)),.b (.val (.int .i64 (fr7 (fR size xs k)).2)),.b (.val (.bool true))],.gone,.row 3 (.ints (mkM size xs k))]) (fun k=>k≤xs.length) (fun k=>xs.length-k) 0 (by ((try simp only [xk]);(repeat (refine leK_cons ?_ ?_;first | (exact amE) | rotate_left));(refine leK_nil ?_;exact (by rw [show fr7 (fR size xs 0)=(0,1) from fr7_zero,show oH (hR size xs 0)=[[(fr7 720).1,(fr7 720).2]] from rfl,fr7_one];rfl));(all_goals (try (simp only [xr,simprocAttr];try refine int_eq1 ?_))))) (Nat.zero_le _) fun k hk => ?_
  have hfk:=fR_le (size:=size) (xs:=xs) h1 h2 k hk
  simp only [xr,simprocAttr]
  refine amGo ?_
  refine awp_cond amQ (fun hd => ?_) (fun hd => ?_)
  · have hd:=of_decide_eq_true hd
    have hk':k<xs.length:=by omega
    have hok:=mkM_ok h1 h2 hk'
    have hst:=mkM_step h1 h2 hk'
    have hml:=mkM_len (size:=size) (xs:=xs) h1 h2 hk
    refine amGo ?_
    (refine .inr (.inl (callW_a [3,5,1,2] (request_x size (fR size xs k) (mkM size xs k) (hR size xs k) (xs.getD k 0) (by omega) hok (by omega)) rfl rfl rfl rfl ⟨rfl,rfl,rfl,rfl,trivial⟩ rfl rfl rfl rfl ?_));refine amC ?_)
    rw [hst]
    refine amGo ?_
    refine ⟨k+1,by omega,by omega,.inl ?_⟩
    ((try simp only [xk]);(repeat (refine leK_cons ?_ ?_;first | (exact amE) | rotate_left));(refine leK_nil ?_;exact (by rfl));(all_goals (try (simp only [xr,simprocAttr];try refine int_eq1 ?_))))
  · have hd:=of_decide_eq_false hd
    obtain rfl:k=xs.length:=by omega
    refine amGo ?_
    (simp only [ends_normal,ends_ret];refine retH_2 (vs:=[_,_]) [3,5,1,2] rfl ⟨rfl,rfl,rfl,rfl,trivial⟩ rfl rfl rfl rfl ⟨rfl,rfl,trivial⟩ ?_;try rfl)
/-! ### the functions -/
def mgF (size:Nat) (xs:List Int):Int×Int:=fr7 (fR size xs xs.length)
def mgK (size:Nat) (xs:List Int):List (List Int):=kH (hR size xs xs.length)
def mgO (size:Nat) (xs:List Int):List (List Int):=oH (hR size xs xs.length)
theorem impl_MarkFaults_d (n:Int) (size:Nat) (xs:List Int) (hb:szB n size xs=true):Does Tryz.prog 21 [.int n,.int size,.sl (.ints xs)] (.imm (.tup [frT (mgF size xs),blT true])):=by
  refine spec_imm Tryz.func21 rfl Tryz.ntmps21 cfOK (fun _ _=>by kernel_rfl) rfl (Nat.le_of_ble_eq_true rfl) ?_
  intro M0 w0
  rw [Tryz.results21]
  refine amGo ?_
  (refine .inr (.inl (callW_a [] (marking_h n size xs hb) rfl rfl rfl rfl trivial rfl rfl rfl rfl ?_));refine amC ?_)
  refine amGo ?_
  refine awp_cond amQ (fun hc => ?_) (fun hc => ?_)
  · cases hc
  refine amGo ?_
  (simp only [xec,simprocAttr];refine ⟨[_,_],⟨⟨amK,rfl⟩,rfl,trivial⟩,rfl,Imp.eq ?_⟩)
  rfl
theorem marking_0 (n size:Int) (xs:List Int) (hb:szB n size xs=false):Does Tryz.prog 62 [.int n,.int size,.sl (.ints xs)] (.imm (.tup [.one (.b (.val (.pointer none))),.one (.b (.val (.bool false)))])):=by
  refine spec_imm Tryz.func62 rfl Tryz.ntmps62 cfOK (fun _ _=>by kernel_rfl) rfl (Nat.le_of_ble_eq_true rfl) ?_
  intro M0 w0
  rw [Tryz.results62]
  refine amGo ?_
  ((try refine Or.inl ?_);refine ⟨_,(isSize_d size),.inl rfl,?_⟩;refine amC ?_)
  refine amGo ?_
  ((try refine Or.inl ?_);refine ⟨_,(fun _=>isRequests_d n xs),.inl rfl,?_⟩;refine amC ?_)
  refine amGo ?_
  rw [szB_bif,hb]
  refine awp_cond amQ (fun hc => ?_) (fun hc => ?_)
  · refine amGo ?_
    (simp only [xe,simprocAttr];refine ⟨[_,_],⟨rfl,rfl,trivial⟩,rfl,Imp.eq ?_⟩)
    rfl
  · cases hc
theorem impl_MarkFaults_0 (n size:Int) (xs:List Int) (hb:szB n size xs=false):Does Tryz.prog 21 [.int n,.int size,.sl (.ints xs)] (.imm (.tup [frT (0,0),blT false])):=by
  refine spec_imm Tryz.func21 rfl Tryz.ntmps21 cfOK (fun _ _=>by kernel_rfl) rfl (Nat.le_of_ble_eq_true rfl) ?_
  intro M0 w0
  rw [Tryz.results21]
  refine amGo ?_
  ((try refine Or.inl ?_);refine ⟨_,(marking_0 n size xs hb),amF,?_⟩;refine amC ?_)
  refine amGo ?_
  refine awp_cond amQ (fun hc => ?_) (fun hc => ?_)
  · refine amGo ?_
    (simp only [xec,simprocAttr];refine ⟨[_,_],⟨⟨amK,rfl⟩,rfl,trivial⟩,rfl,Imp.eq ?_⟩)
    rfl
  · cases hc
theorem mgK_len {n:Int} {size:Nat} {xs:List Int} (hb:szB n size xs=true):(mgK size xs).length≤720∧∀ r∈mgK size xs,r.length≤6:=by
  have hs:=sz_ok hb
  have H:=mg_inv (size:=size) (xs:=xs) (by have:=hs.s1;omega) (by have:=hs.s2;omega) xs.length (Nat.le_refl _)
  unfold mgK
  rw [kH_len]
  refine ⟨H.len,fun r hr => ?_⟩
  obtain ⟨p,hp,rfl⟩:=List.mem_map.1 hr
  have:=(H.ok.all p hp).le
  have:=hs.s2
  omega
theorem impl_MarkContents_h (n:Int) (size:Nat) (xs:List Int) (hb:szB n size xs=true):DoesH Tryz.prog 19 [.int n,.int size,.sl (.ints xs)] [] [] (.tup [.one (.own 0),.one (.own 1),.one (.b (.val (.bool true)))]) [.tree [24,3] (.ii (mgK size xs)),.row 40 (.k 2 (mgO size xs))]:=by
  obtain ⟨hl,hr⟩:=mgK_len hb
  have hmk:=marking_h n size xs hb
  unfold mgK at hl hr ⊢
  unfold mgO
  refine spec_hB Tryz.func19 rfl Tryz.ntmps19 cfOK (fun _ _=>by kernel_rfl) rfl rfl rfl ?_
  intro M0 w0 S φ0
  rw [Tryz.results19]
  refine amGo ?_
  (refine .inr (.inl (callW_a [] (hmk) rfl rfl rfl rfl trivial rfl rfl rfl rfl ?_));refine amC ?_)
  refine amGo ?_
  refine awp_cond amQ (fun hc => ?_) (fun hc => ?_)
  · cases hc
  (refine amB ?_;refine awp_anyC 4 (ownTable_h (kH (hR size xs xs.length)) (by omega) (fun r h=>by have:=hr r h;omega)) rfl rfl rfl (by kernel_rfl) (by kernel_rfl) (by kernel_rfl) ?_;refine amDR ?_)
  (refine ⟨⟨_,rfl,rfl,rfl⟩,?_⟩;refine amDC ?_)
  refine amGo ?_
  (simp only [ends_normal,ends_ret];refine retH_2 (vs:=[_,_,_]) [4,3] rfl ⟨rfl,rfl,trivial⟩ rfl rfl rfl rfl ⟨rfl,rfl,rfl,trivial⟩ ?_;try rfl)
theorem impl_MarkContents_0 (n size:Int) (xs:List Int) (hb:szB n size xs=false):Does Tryz.prog 19 [.int n,.int size,.sl (.ints xs)] (.imm (.tup [.one (.b (.val (.slice none 0 0))),.one (.b (.val (.slice none 0 0))),.one (.b (.val (.bool false)))])):=by
  refine spec_imm Tryz.func19 rfl Tryz.ntmps19 cfOK (fun _ _=>by kernel_rfl) rfl (Nat.le_of_ble_eq_true rfl) ?_
  intro M0 w0
  rw [Tryz.results19]
  refine amGo ?_
  ((try refine Or.inl ?_);refine ⟨_,(marking_0 n size xs hb),amF,?_⟩;refine amC ?_)
  refine amGo ?_
  refine awp_cond amQ (fun hc => ?_) (fun hc => ?_)
  · refine amGo ?_
    (simp only [xe,simprocAttr];refine ⟨[_,_,_],⟨rfl,rfl,rfl,trivial⟩,rfl,Imp.eq ?_⟩)
    rfl
  · cases hc
end Go.Proofs.YtjblpcgkffhgfaaGreat
/- MarkFaults and MarkContents of the program and of the reference, on the machine. Conditions: those that each names. -/
set_option linter.all false
set_option linter.unusedSimpArgs false
set_option linter.unusedVariables false
namespace Go.Proofs.YtjblpcgkffhgfaaGreat
open Go Go.RowKit Am

theorem size_nat {n size:Int} {xs:List Int} (hb:szB n size xs=true):((size.toNat:Nat):Int)=size:=by have:=(sz_ok hb).s1;omega
def mfV (n size:Int) (xs:List Int):Int×Int:=if szB n size xs=true then mgF size.toNat xs else (0,0)
theorem impl_MarkFaults_v (n size:Int) (xs:List Int):Does Tryz.prog 21 [.int n,.int size,.sl (.ints xs)] (.imm (.tup [frT (mfV n size xs),blT (szB n size xs)])):=by
  unfold mfV
  cases hb:szB n size xs
  · rw [if_neg (by decide)]
    exact impl_MarkFaults_0 n size xs hb
  · rw [if_pos rfl]
    have e:=size_nat hb
    generalize size.toNat=s at e
    subst e
    exact impl_MarkFaults_d n s xs hb
theorem spec_MarkFaults_d (n size:Int) (xs:List Int):Does Tryz.prog 22 [.int n,.int size,.sl (.ints xs)] (.imm (.tup [frT (mfV n size xs),blT (szB n size xs)])):=by
  unfold mfV
  cases hb:szB n size xs
  · rw [if_neg (by decide)]
    refine spec_imm Tryz.func22 rfl Tryz.ntmps22 cfOK (fun _ _=>by kernel_rfl) rfl (Nat.le_of_ble_eq_true rfl) ?_
    intro M0 w0
    rw [Tryz.results22]
    refine amGo ?_
    ((try refine Or.inl ?_);refine ⟨_,(l11Sized_d n size xs),.inl rfl,?_⟩;refine amC ?_)
    refine amGo ?_
    rw [hb]
    refine awp_cond amQ (fun hc => ?_) (fun hc => ?_)
    · refine amGo ?_
      (simp only [xec,simprocAttr];refine ⟨[_,_],⟨⟨amK,rfl⟩,rfl,trivial⟩,rfl,Imp.eq ?_⟩)
      rfl
    · cases hc
  · rw [if_pos rfl]
    have e:=size_nat hb
    generalize size.toNat=s at e
    subst e
    refine spec_imm Tryz.func22 rfl Tryz.ntmps22 cfOK (fun _ _=>by kernel_rfl) rfl (Nat.le_of_ble_eq_true rfl) ?_
    intro M0 w0
    rw [Tryz.results22]
    refine amGo ?_
    ((try refine Or.inl ?_);refine ⟨_,(l11Sized_d n s xs),.inl rfl,?_⟩;refine amC ?_)
    refine amGo ?_
    rw [hb]
    refine awp_cond amQ (fun hc => ?_) (fun hc => ?_)
    · cases hc
    refine amGo ?_
    ((try refine Or.inl ?_);refine ⟨_,(l11Mark_d n s xs hb),amF,?_⟩;refine amC ?_)
    refine amGo ?_
    (simp only [xec,simprocAttr];refine ⟨[_,_],⟨⟨amK,rfl⟩,rfl,trivial⟩,rfl,Imp.eq ?_⟩)
    rfl
theorem mgO_2 (size:Nat) (xs:List Int):∀ x∈mgO size xs,x.length=2:=fun x hx=>by
  obtain ⟨p,-,rfl⟩:=List.mem_map.1 hx
  rfl
def mcK (n size:Int) (xs:List Int):List (List Int):=mgK size.toNat xs
def mcO (n size:Int) (xs:List Int):List (List Int):=mgO size.toNat xs
theorem spec_MarkContents_d (n size:Int) (xs:List Int):Does Tryz.prog 20 [.int n,.int size,.sl (.ints xs)] (.imm (.tup [.one (.b (.sl (.ii (if szB n size xs=true then mcK n size xs else [])))),.one (.b (.sl (.k 2 (if szB n size xs=true then mcO n size xs else [])))),.one (.b (.val (.bool (szB n size xs))))])):=by
  unfold mcK mcO
  cases hb:szB n size xs
  · rw [if_neg (by decide),if_neg (by decide)]
    refine spec_imm Tryz.func20 rfl Tryz.ntmps20 cfOK (fun _ _=>by kernel_rfl) rfl (Nat.le_of_ble_eq_true rfl) ?_
    intro M0 w0
    rw [Tryz.results20]
    refine amGo ?_
    ((try refine Or.inl ?_);refine ⟨_,(l11Sized_d n size xs),.inl rfl,?_⟩;refine amC ?_)
    refine amGo ?_
    rw [hb]
    refine awp_cond amQ (fun hc => ?_) (fun hc => ?_)
    · refine amGoR ?_
      (refine awp_frz 0 rfl ?_;simp only [xz,simprocAttr])
      (refine awp_frz 1 rfl ?_;simp only [xz,simprocAttr])
      refine amGo ?_
      (simp only [xe,simprocAttr];refine ⟨[_,_,_],⟨rfl,rfl,rfl,trivial⟩,rfl,Imp.eq ?_⟩)
      rfl
    · cases hc
  · rw [if_pos rfl,if_pos rfl]
    have e:=size_nat hb
    generalize size.toNat=s at e
    subst e
    refine spec_imm Tryz.func20 rfl Tryz.ntmps20 cfOK (fun _ _=>by kernel_rfl) rfl (Nat.le_of_ble_eq_true rfl) ?_
    intro M0 w0
    rw [Tryz.results20]
    refine amGo ?_
    ((try refine Or.inl ?_);refine ⟨_,(l11Sized_d n s xs),.inl rfl,?_⟩;refine amC ?_)
    refine amGo ?_
    rw [hb]
    refine awp_cond amQ (fun hc => ?_) (fun hc => ?_)
    · cases hc
    refine amGo ?_
    ((try refine Or.inl ?_);refine ⟨_,(l11Mark_d n s xs hb),amF,?_⟩;refine amC ?_)
    refine amGo ?_
    (simp only [xe,simprocAttr];refine ⟨[_,_,_],⟨rfl,rfl,rfl,trivial⟩,rfl,Imp.eq ?_⟩)
    rfl
theorem impl_MarkContents_g (n size:Int) (xs:List Int) (hb:szB n size xs=true):DoesH Tryz.prog 19 [.int n,.int size,.sl (.ints xs)] [] [] (.tup [.one (.own 0),.one (.own 1),.one (.b (.val (.bool true)))]) [.tree [24,3] (.ii (mcK n size xs)),.row 40 (.k 2 (mcO n size xs))]:=by
  unfold mcK mcO
  have e:=size_nat hb
  generalize size.toNat=s at e
  subst e
  exact impl_MarkContents_h n s xs hb
theorem mcK_len {n size:Int} {xs:List Int} (hb:szB n size xs=true):(mcK n size xs).length≤720∧∀ r∈mcK n size xs,r.length≤6:=by
  unfold mcK
  have e:=size_nat hb
  generalize size.toNat=s at e
  subst e
  exact mgK_len hb
theorem mcO_len {n size:Int} {xs:List Int} (hb:szB n size xs=true):(mcO n size xs).length≤720:=by
  have h:=(mcK_len hb).1
  unfold mcO mgO
  unfold mcK mgK at h
  rw [oH_len]
  rwa [kH_len] at h
theorem mcO_ok {n size:Int} {xs:List Int} (hb:szB n size xs=true):(mcO n size xs).length≤720∧∀ x∈mcO n size xs,x.length=2:=⟨mcO_len hb,mgO_2 _ _⟩
end Go.Proofs.YtjblpcgkffhgfaaGreat
