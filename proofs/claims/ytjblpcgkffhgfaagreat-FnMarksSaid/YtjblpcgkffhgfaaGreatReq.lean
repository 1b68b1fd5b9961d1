/- Requests: when they are right, their different numbers, and their phases, on the machine: the program's and the reference's. Conditions: those that each names. -/
import Derived.Test.YtjblpcgkffhgfaaGreatClone0
import Derived.Test.YtjblpcgkffhgfaaGreatGCM
import Derived.Test.YtjblpcgkffhgfaaGreatGFM
import Derived.Test.YtjblpcgkffhgfaaGreatGDL
set_option linter.all false
set_option linter.unusedSimpArgs false
set_option linter.unusedVariables false
namespace Go.Proofs.YtjblpcgkffhgfaaGreat
open Go Go.RowKit Am

def rqB (n:Int) (xs:List Int):Bool:=rng n 1 8 && (decide ((xs.length:Int)≤60) && allIn 0 (n-1) xs)
def szB (n size:Int) (xs:List Int):Bool:=rng size 1 6 && rqB n xs
structure SzOK (n size:Int) (xs:List Int):Prop where
  s1:1≤size
  s2:size≤6
  n1:1≤n
  n2:n≤8
  len:xs.length≤60
  all:∀ x∈xs,0≤x∧x≤n-1
theorem sz_ok {n size:Int} {xs:List Int} (h:szB n size xs=true):SzOK n size xs:=by
  unfold szB rqB rng at h
  simp only [Bool.and_eq_true,decide_eq_true_eq,allIn_iff] at h
  obtain ⟨⟨h1,h2⟩,⟨h3,h4⟩,h5,h6⟩:=h
  exact ⟨h1,h2,h3,h4,by omega,h6⟩
theorem bif_l {a b:Bool} (h:(bif a then b else false)=true):a=true:=by
  cases a
  · cases h
  · rfl
theorem rng_bd {n:Int} (h:rng n 1 8=true) : -9223372036854775807≤n∧n≤9223372036854775807:=by
  unfold rng at h
  have:=of_decide_eq_true h
  omega
theorem isItems_d (n:Int):Does Tryz.prog 122 [.int n] (.imm (.bool (rng n 1 8))):=by
  refine spec_imm Tryz.func122 rfl Tryz.ntmps122 cfOK (fun _ _=>by kernel_rfl) rfl (Nat.le_of_ble_eq_true rfl) ?_
  intro M0 w0
  rw [Tryz.results122]
  refine amGo ?_
  ((try refine Or.inl ?_);refine ⟨_,(within_e _ _ _),.inl rfl,?_⟩;refine amC ?_)
  refine amGo ?_
  (simp only [xe,simprocAttr];refine ⟨_,rfl,rfl,Imp.eq ?_⟩)
  rfl
theorem isSize_d (n:Int):Does Tryz.prog 66 [.int n] (.imm (.bool (rng n 1 6))):=by
  refine spec_imm Tryz.func66 rfl Tryz.ntmps66 cfOK (fun _ _=>by kernel_rfl) rfl (Nat.le_of_ble_eq_true rfl) ?_
  intro M0 w0
  rw [Tryz.results66]
  refine amGo ?_
  ((try refine Or.inl ?_);refine ⟨_,(within_e _ _ _),.inl rfl,?_⟩;refine amC ?_)
  refine amGo ?_
  (simp only [xe,simprocAttr];refine ⟨_,rfl,rfl,Imp.eq ?_⟩)
  rfl
theorem isRequests_d (n:Int) (xs:List Int):Does Tryz.prog 67 [.int n,.sl (.ints xs)] (.imm (.bool (rqB n xs))):=by
  refine spec_imm Tryz.func67 rfl Tryz.ntmps67 cfOK (fun _ _=>by kernel_rfl) rfl (Nat.le_of_ble_eq_true rfl) ?_
  intro M0 w0
  rw [Tryz.results67]
  (refine awp_fits 1 rfl fun hf => ?_;simp only [xp,simprocAttr] at hf;simp only [xf,simprocAttr] at hf)
  refine amGo ?_
  ((try refine Or.inl ?_);refine ⟨_,(isItems_d n),.inl rfl,?_⟩;refine amC ?_)
  refine amGo ?_
  ((try refine Or.inl ?_);refine ⟨_,(fun h=>areBelowB_d n xs (rng_bd (bif_l h))),.inl rfl,?_⟩;refine amC ?_)
  refine amGo ?_
  (simp only [xe,simprocAttr];refine ⟨_,rfl,rfl,Imp.eq ?_⟩)
  show AV.bool _=AV.bool _
  unfold rqB
  cases rng n 1 8<;>cases decide ((xs.length:Int)≤60)<;>rfl
theorem l3Items_d (n:Int):Does Tryz.prog 140 [.int n] (.imm (.bool (rng n 1 8))):=by
  refine spec_imm Tryz.func140 rfl Tryz.ntmps140 cfOK (fun _ _=>by kernel_rfl) rfl (Nat.le_of_ble_eq_true rfl) ?_
  intro M0 w0
  rw [Tryz.results140]
  refine amGo ?_
  ((try refine Or.inl ?_);refine ⟨_,(l1In_e _ _ _),.inl rfl,?_⟩;refine amC ?_)
  refine amGo ?_
  (simp only [xe,simprocAttr];refine ⟨_,rfl,rfl,Imp.eq ?_⟩)
  rfl
theorem l3List_d (n:Int) (xs:List Int) (hn : -9223372036854775807≤n∧n≤9223372036854775807):Does Tryz.prog 141 [.int n,.sl (.ints xs)] (.imm (.bool (allIn 0 (n-1) xs))):=by
  refine spec_imm Tryz.func141 rfl Tryz.ntmps141 cfOK (fun _ _=>by kernel_rfl) rfl (Nat.le_of_ble_eq_true rfl) ?_
  intro M0 w0
  rw [Tryz.results141]
  (refine awp_fits 1 rfl fun hf => ?_;simp only [xp,simprocAttr] at hf;simp only [xf,simprocAttr] at hf)
  refine amGo ?_
  refine awp_rounds (α:=Nat) (fun k=>[(5,true,.int k)]) [0,1] (fun _=>[]) (fun k=>k≤xs.length∧∀ x∈xs.take k,rng x 0 (n-1)=true) (fun k=>xs.length-k) 0 (by ((try simp only [xk]);(repeat (refine leK_cons ?_ ?_;first | (exact amE) | rotate_left));(try exact leK_nil rfl);(all_goals (try (simp only [xr,simprocAttr];try refine int_eq1 ?_))))) ⟨Nat.zero_le _,by simp⟩ fun k hk => ?_
  obtain ⟨hk,hp⟩:=hk
  simp only [xr,simprocAttr]
  refine amGo ?_
  refine awp_cond amQ (fun hc => ?_) (fun hc => ?_)
  · have hk':k<xs.length:=by have:=of_decide_eq_true hc;omega
    refine amGo ?_
    ((try refine Or.inl ?_);refine ⟨_,(l1In_e _ _ _),.inl rfl,?_⟩;refine amC ?_)
    refine amGo ?_
    refine awp_cond amQ (fun hd => ?_) (fun hd => ?_)
    · have hd:rng (xs.getD k 0) 0 (n-1)=false:=by simpa using hd
      refine amGo ?_
      (simp only [xe,simprocAttr];refine ⟨_,rfl,rfl,Imp.eq ?_⟩)
      rw [allIn_no (x:=xs.getD k 0) (by rw [getD_inL hk'];exact List.getElem_mem hk') hd]
    · have hd:rng (xs.getD k 0) 0 (n-1)=true:=by simpa using hd
      refine amGo ?_
      refine ⟨k+1,by omega,fun x hx => ?_,by omega,.inl ?_⟩
      · rw [List.take_succ_eq_append_getElem hk',List.mem_append,List.mem_singleton] at hx
        rcases hx with hx | rfl
        · exact hp x hx
        · rw [← getD_inL (d:=0) hk'];exact hd
      · ((try simp only [xk]);(repeat (refine leK_cons ?_ ?_;first | (exact amE) | rotate_left));(try exact leK_nil rfl);(all_goals (try (simp only [xr,simprocAttr];try refine int_eq1 ?_))))
  · have hk':k=xs.length:=by have:=of_decide_eq_false hc;omega
    subst hk'
    rw [List.take_length] at hp
    refine amGo ?_
    (simp only [xe,simprocAttr];refine ⟨_,rfl,rfl,Imp.eq ?_⟩)
    rw [show allIn 0 (n-1) xs=true from List.all_eq_true.2 hp]
theorem l3Good_d (n:Int) (xs:List Int):Does Tryz.prog 96 [.int n,.sl (.ints xs)] (.imm (.bool (rqB n xs))):=by
  refine spec_imm Tryz.func96 rfl Tryz.ntmps96 cfOK (fun _ _=>by kernel_rfl) rfl (Nat.le_of_ble_eq_true rfl) ?_
  intro M0 w0
  rw [Tryz.results96]
  (refine awp_fits 1 rfl fun hf => ?_;simp only [xp,simprocAttr] at hf;simp only [xf,simprocAttr] at hf)
  refine amGo ?_
  ((try refine Or.inl ?_);refine ⟨_,(l3Items_d n),.inl rfl,?_⟩;refine amC ?_)
  refine amGo ?_
  ((try refine Or.inl ?_);refine ⟨_,(fun h=>l3List_d n xs (rng_bd (bif_l h))),.inl rfl,?_⟩;refine amC ?_)
  refine amGo ?_
  (simp only [xe,simprocAttr];refine ⟨_,rfl,rfl,Imp.eq ?_⟩)
  show AV.bool _=AV.bool _
  unfold rqB
  cases rng n 1 8<;>cases decide ((xs.length:Int)≤60)<;>rfl
/-! ### whether a number is in a list -/
theorem contains_any (xs:List Int) (x:Int):xs.contains x=xs.any fun y=>decide (x=y):=by
  rw [List.contains_eq_any_beq]
  rfl
theorem contains_d (xs:List Int) (x:Int):Does Tryz.prog 102 [.sl (.ints xs),.int x] (.imm (.bool (xs.contains x))):=by
  refine spec_imm Tryz.func102 rfl Tryz.ntmps102 cfOK (fun _ _=>by kernel_rfl) rfl (Nat.le_of_ble_eq_true rfl) ?_
  intro M0 w0
  rw [Tryz.results102]
  refine amGo ?_
  ((try refine Or.inl ?_);refine ⟨_,(index_d xs x),.inl rfl,?_⟩;refine amC ?_)
  refine amGo ?_
  (simp only [xe,simprocAttr];refine ⟨_,rfl,rfl,Imp.eq ?_⟩)
  rw [idxOf_any,contains_any]
theorem l1Has_d (xs:List Int) (x:Int):Does Tryz.prog 91 [.sl (.ints xs),.int x] (.imm (.bool (xs.contains x))):=by
  refine spec_imm Tryz.func91 rfl Tryz.ntmps91 cfOK (fun _ _=>by kernel_rfl) rfl (Nat.le_of_ble_eq_true rfl) ?_
  intro M0 w0
  rw [Tryz.results91]
  (refine awp_fits 0 rfl fun hf => ?_;simp only [xp,simprocAttr] at hf;simp only [xf,simprocAttr] at hf)
  refine amGo ?_
  refine awp_rounds (α:=Nat) (fun k=>[(5,true,.int k)]) [0,1] (fun _=>[]) (fun k=>k≤xs.length∧∀ y∈xs.take k,x≠y) (fun k=>xs.length-k) 0 (by ((try simp only [xk]);(repeat (refine leK_cons ?_ ?_;first | (exact amE) | rotate_left));(try exact leK_nil rfl);(all_goals (try (simp only [xr,simprocAttr];try refine int_eq1 ?_))))) ⟨Nat.zero_le _,by simp⟩ fun k hk => ?_
  obtain ⟨hk,hp⟩:=hk
  simp only [xr,simprocAttr]
  refine amGo ?_
  refine awp_cond amQ (fun hc => ?_) (fun hc => ?_)
  · have hk':k<xs.length:=by have:=of_decide_eq_true hc;omega
    have hx:xs.getD k 0=xs[k]:=by simp [hk']
    refine amGo ?_
    refine awp_cond amQ (fun hd => ?_) (fun hd => ?_)
    · have hd:=of_decide_eq_true hd
      refine amGo ?_
      (simp only [xe,simprocAttr];refine ⟨_,rfl,rfl,Imp.eq ?_⟩)
      rw [show xs.contains x=true from List.contains_iff_mem.2 (by rw [← hd,hx];exact List.getElem_mem hk')]
    · have hd:=of_decide_eq_false hd
      refine amGo ?_
      refine ⟨k+1,by omega,fun y hy => ?_,by omega,.inl ?_⟩
      · rw [List.take_succ_eq_append_getElem hk',List.mem_append,List.mem_singleton] at hy
        rcases hy with hy | rfl
        · exact hp y hy
        · rw [← hx];exact fun e=>hd e.symm
      · ((try simp only [xk]);(repeat (refine leK_cons ?_ ?_;first | (exact amE) | rotate_left));(try exact leK_nil rfl);(all_goals (try (simp only [xr,simprocAttr];try refine int_eq1 ?_))))
  · have hk':k=xs.length:=by have:=of_decide_eq_false hc;omega
    subst hk'
    rw [List.take_length] at hp
    refine amGo ?_
    (simp only [xe,simprocAttr];refine ⟨_,rfl,rfl,Imp.eq ?_⟩)
    rw [show xs.contains x=false from Bool.eq_false_iff.2 fun h=>hp x (List.contains_iff_mem.1 h) rfl]
/-! ### the different numbers of a list -/
theorem rising_h (xs:List Int) (hn:xs.length≤1048576):DoesH Tryz.prog 105 [.sl (.ints xs)] [] [] (.lf (.own 0)) [.row 3 (.ints (rs xs))]:=by
  have h1:=srt_len xs
  refine spec_hB Tryz.func105 rfl Tryz.ntmps105 cfOK (fun _ _=>by kernel_rfl) rfl rfl rfl ?_
  intro M0 w0 S φ0
  rw [Tryz.results105]
  refine amGo ?_
  (refine .inr (.inl (callW_b (cln_a xs hn) rfl rfl rfl rfl rfl rfl rfl ?_));refine amC ?_)
  refine amGo ?_
  (refine .inr (.inl (callW_a [0] (sort_h xs (by omega)) rfl rfl rfl rfl ⟨rfl,trivial⟩ rfl rfl rfl rfl ?_));refine amC ?_)
  refine amGo ?_
  (refine .inr (.inl (callW_a [0] (compact_h (srt xs) (by omega)) rfl rfl rfl rfl ⟨rfl,trivial⟩ rfl rfl rfl rfl ?_));refine amC ?_)
  refine amGo ?_
  (simp only [ends_normal,ends_ret];refine retH_1 [0] rfl ⟨rfl,trivial⟩ rfl rfl rfl rfl rfl ?_;try rfl)
theorem rising_d (xs:List Int) (hn:xs.length≤1048576):Does Tryz.prog 105 [.sl (.ints xs)] (.imm (.sl (.ints (rs xs)))):=imm_of (rising_h xs hn)
end Go.Proofs.YtjblpcgkffhgfaaGreat
