/- Requests: when they are right, their different numbers, and their phases, on the machine: the program's and the reference's. Conditions: those that each names. -/
import Derived.Test.YtjblpcgkffhgfaaClone0
import Derived.Test.YtjblpcgkffhgfaaIndexI
import Derived.Test.YtjblpcgkffhgfaaGFM
import Derived.Test.YtjblpcgkffhgfaaDelF
set_option linter.all false
set_option linter.unusedSimpArgs false
set_option linter.unusedVariables false
namespace Go.Proofs.Ytjblpcgkffhgfaa
open Go Go.RowKit Am

def rqB (n:Int) (xs:List Int):Bool:=rng n 1 8 && (decide ((xs.length:Int)≤60) && allIn 0 (n-1) xs)
def szB (n size:Int) (xs:List Int):Bool:=rng size 1 6 && rqB n xs
structure SzOK (n size:Int) (xs:List Int):Prop where
  s1:1≤size
  s2:size≤6
  n1:1≤n
  n2:n≤8
  len:xs.length≤60
  all:∀ x∈xs,0≤x∧x≤n-1
theorem sz_ok {n size:Int} {xs:List Int} (h:szB n size xs=true):SzOK n size xs:=by
  unfold szB rqB rng at h
  simp only [Bool.and_eq_true,decide_eq_true_eq,allIn_iff] at h
  obtain ⟨⟨h1,h2⟩,⟨h3,h4⟩,h5,h6⟩:=h
  exact ⟨h1,h2,h3,h4,by omega,h6⟩
theorem bif_l {a b:Bool} (h:(bif a then b else false)=true):a=true:=by
  cases a
  · cases h
  · rfl
theorem rng_bd {n:Int} (h:rng n 1 8=true) : -9223372036854775807≤n∧n≤9223372036854775807:=by
  unfold rng at h
  have:=of_decide_eq_true h
  omega
theorem isItems_d (n:Int):Does Try.prog 42 [.int n] (.imm (.bool (rng n 1 8))):=by
  refine spec_imm Try.func42 rfl Try.ntmps42 cfOK (fun _ _=>by kernel_rfl) rfl (Nat.le_of_ble_eq_true rfl) ?_
  intro M0 w0
  rw [Try.results42]
  refine amGo ?_
  ((try refine Or.inl ?_);refine ⟨_,(within_e _ _ _),.inl rfl,?_⟩;refine amC ?_)
  refine amGo ?_
  (simp only [xe,simprocAttr];refine ⟨_,rfl,rfl,Imp.eq ?_⟩)
  rfl
theorem isSize_d (n:Int):Does Try.prog 29 [.int n] (.imm (.bool (rng n 1 6))):=by
  refine spec_imm Try.func29 rfl Try.ntmps29 cfOK (fun _ _=>by kernel_rfl) rfl (Nat.le_of_ble_eq_true rfl) ?_
  intro M0 w0
  rw [Try.results29]
  refine amGo ?_
  ((try refine Or.inl ?_);refine ⟨_,(within_e _ _ _),.inl rfl,?_⟩;refine amC ?_)
  refine amGo ?_
  (simp only [xe,simprocAttr];refine ⟨_,rfl,rfl,Imp.eq ?_⟩)
  rfl
theorem isRequests_d (n:Int) (xs:List Int):Does Try.prog 30 [.int n,.sl (.ints xs)] (.imm (.bool (rqB n xs))):=by
  refine spec_imm Try.func30 rfl Try.ntmps30 cfOK (fun _ _=>by kernel_rfl) rfl (Nat.le_of_ble_eq_true rfl) ?_
  intro M0 w0
  rw [Try.results30]
  (refine awp_fits 1 rfl fun hf => ?_;simp only [xp,simprocAttr] at hf;simp only [xf,simprocAttr] at hf)
  refine amGo ?_
  ((try refine Or.inl ?_);refine ⟨_,(isItems_d n),.inl rfl,?_⟩;refine amC ?_)
  refine amGo ?_
  ((try refine Or.inl ?_);refine ⟨_,(fun h=>areBelowB_d n xs (rng_bd (bif_l h))),.inl rfl,?_⟩;refine amC ?_)
  refine amGo ?_
  (simp only [xe,simprocAttr];refine ⟨_,rfl,rfl,Imp.eq ?_⟩)
  show AV.bool _=AV.bool _
  unfold rqB
  cases rng n 1 8<;>cases decide ((xs.length:Int)≤60)<;>rfl
theorem l3Items_d (n:Int):Does Try.prog 53 [.int n] (.imm (.bool (rng n 1 8))):=by
  refine spec_imm Try.func53 rfl Try.ntmps53 cfOK (fun _ _=>by kernel_rfl) rfl (Nat.le_of_ble_eq_true rfl) ?_
  intro M0 w0
  rw [Try.results53]
  refine amGo ?_
  ((try refine Or.inl ?_);refine ⟨_,(l1In_e _ _ _),.inl rfl,?_⟩;refine amC ?_)
  refine amGo ?_
  (simp only [xe,simprocAttr];refine ⟨_,rfl,rfl,Imp.eq ?_⟩)
  rfl
theorem l3List_d (n:Int) (xs:List Int) (hn : -9223372036854775807≤n∧n≤9223372036854775807):Does Try.prog 54 [.int n,.sl (.ints xs)] (.imm (.bool (allIn 0 (n-1) xs))):=by
  refine spec_imm Try.func54 rfl Try.ntmps54 cfOK (fun _ _=>by kernel_rfl) rfl (Nat.le_of_ble_eq_true rfl) ?_
  intro M0 w0
  rw [Try.results54]
  (refine awp_fits 1 rfl fun hf => ?_;simp only [xp,simprocAttr] at hf;simp only [xf,simprocAttr] at hf)
  refine amGo ?_
  refine awp_rounds (α:=Nat) (fun k=>[(5,true,.int k)]) [0,1] (fun _=>[]) (fun k=>k≤xs.length∧∀ x∈xs.take k,rng x 0 (n-1)=true) (fun k=>xs.length-k) 0 (by ((try simp only [xk]);(repeat (refine leK_cons ?_ ?_;first | (exact amE) | rotate_left));(try exact leK_nil rfl);(all_goals (try (simp only [xr,simprocAttr];try refine int_eq1 ?_))))) ⟨Nat.zero_le _,by simp⟩ fun k hk => ?_
  obtain ⟨hk,hp⟩:=hk
  simp only [xr,simprocAttr]
  refine amGo ?_
  refine awp_cond amQ (fun hc => ?_) (fun hc => ?_)
  · have hk':k<xs.length:=by have:=of_decide_eq_true hc;omega
    refine amGo ?_
    ((try refine Or.inl ?_);refine ⟨_,(l1In_e _ _ _),.inl rfl,?_⟩;refine amC ?_)
    refine amGo ?_
    refine awp_cond amQ (fun hd => ?_) (fun hd => ?_)
    · have hd:rng (xs.getD k 0) 0 (n-1)=false:=by simpa using hd
      refine amGo ?_
      (simp only [xe,simprocAttr];refine ⟨_,rfl,rfl,Imp.eq ?_⟩)
      rw [allIn_no (x:=xs.getD k 0) (by rw [getD_inL hk'];exact List.getElem_mem hk') hd]
    · have hd:rng (xs.getD k 0) 0 (n-1)=true:=by simpa using hd
      refine amGo ?_
      refine ⟨k+1,by omega,fun x hx => ?_,by omega,.inl ?_⟩
      · rw [List.take_succ_eq_append_getElem hk',List.mem_append,List.mem_singleton] at hx
        rcases hx with hx | rfl
        · exact hp x hx
        · rw [← getD_inL (d:=0) hk'];exact hd
      · ((try simp only [xk]);(repeat (refine leK_cons ?_ ?_;first | (exact amE) | rotate_left));(try exact leK_nil rfl);(all_goals (try (simp only [xr,simprocAttr];try refine int_eq1 ?_))))
  · have hk':k=xs.length:=by have:=of_decide_eq_false hc;omega
    subst hk'
    rw [List.take_length] at hp
    refine amGo ?_
    (simp only [xe,simprocAttr];refine ⟨_,rfl,rfl,Imp.eq ?_⟩)
    rw [show allIn 0 (n-1) xs=true from List.all_eq_true.2 hp]
theorem l3Good_d (n:Int) (xs:List Int):Does Try.prog 34 [.int n,.sl (.ints xs)] (.imm (.bool (rqB n xs))):=by
  refine spec_imm Try.func34 rfl Try.ntmps34 cfOK (fun _ _=>by kernel_rfl) rfl (Nat.le_of_ble_eq_true rfl) ?_
  intro M0 w0
  rw [Try.results34]
  (refine awp_fits 1 rfl fun hf => ?_;simp only [xp,simprocAttr] at hf;simp only [xf,simprocAttr] at hf)
  refine amGo ?_
  ((try refine Or.inl ?_);refine ⟨_,(l3Items_d n),.inl rfl,?_⟩;refine amC ?_)
  refine amGo ?_
  ((try refine Or.inl ?_);refine ⟨_,(fun h=>l3List_d n xs (rng_bd (bif_l h))),.inl rfl,?_⟩;refine amC ?_)
  refine amGo ?_
  (simp only [xe,simprocAttr];refine ⟨_,rfl,rfl,Imp.eq ?_⟩)
  show AV.bool _=AV.bool _
  unfold rqB
  cases rng n 1 8<;>cases decide ((xs.length:Int)≤60)<;>rfl
theorem l4Sizes_d (p s:Int):Does Try.prog 33 [.int p,.int s] (.imm (.bool (rng p 1 7 && rng s 1 6))):=by
  refine spec_imm Try.func33 rfl Try.ntmps33 cfOK (fun _ _=>by kernel_rfl) rfl (Nat.le_of_ble_eq_true rfl) ?_
  intro M0 w0
  rw [Try.results33]
  refine amGo ?_
  ((try refine Or.inl ?_);refine ⟨_,(l1In_e _ _ _),.inl rfl,?_⟩;refine amC ?_)
  refine amGo ?_
  ((try refine Or.inl ?_);refine ⟨_,(fun _=>l1In_e _ _ _),.inl rfl,?_⟩;refine amC ?_)
  refine amGo ?_
  (simp only [xe,simprocAttr];refine ⟨_,rfl,rfl,Imp.eq ?_⟩)
  cases rng p 1 7<;>rfl
theorem l4Asked_d (n p s:Int) (xs:List Int):Does Try.prog 24 [.int n,.int p,.int s,.sl (.ints xs)] (.imm (.bool ((rng p 1 7 && rng s 1 6) && rqB n xs))):=by
  refine spec_imm Try.func24 rfl Try.ntmps24 cfOK (fun _ _=>by kernel_rfl) rfl (Nat.le_of_ble_eq_true rfl) ?_
  intro M0 w0
  rw [Try.results24]
  refine amGo ?_
  ((try refine Or.inl ?_);refine ⟨_,(l4Sizes_d p s),.inl rfl,?_⟩;refine amC ?_)
  refine amGo ?_
  ((try refine Or.inl ?_);refine ⟨_,(fun _=>l3Good_d n xs),.inl rfl,?_⟩;refine amC ?_)
  refine amGo ?_
  (simp only [xe,simprocAttr];refine ⟨_,rfl,rfl,Imp.eq ?_⟩)
  cases rng p 1 7<;>cases rng s 1 6<;>rfl
theorem l11Sized_d (n s:Int) (xs:List Int):Does Try.prog 19 [.int n,.int s,.sl (.ints xs)] (.imm (.bool (szB n s xs))):=by
  refine spec_imm Try.func19 rfl Try.ntmps19 cfOK (fun _ _=>by kernel_rfl) rfl (Nat.le_of_ble_eq_true rfl) ?_
  intro M0 w0
  rw [Try.results19]
  refine amGo ?_
  ((try refine Or.inl ?_);refine ⟨_,(l4Asked_d n 1 s xs),.inl rfl,?_⟩;refine amC ?_)
  refine amGo ?_
  (simp only [xe,simprocAttr];refine ⟨_,rfl,rfl,Imp.eq ?_⟩)
  rfl
/-! ### whether a number is in a list -/
theorem contains_any (xs:List Int) (x:Int):xs.contains x=xs.any fun y=>decide (x=y):=by
  rw [List.contains_eq_any_beq]
  rfl
theorem contains_d (xs:List Int) (x:Int):Does Try.prog 44 [.sl (.ints xs),.int x] (.imm (.bool (xs.contains x))):=by
  refine spec_imm Try.func44 rfl Try.ntmps44 cfOK (fun _ _=>by kernel_rfl) rfl (Nat.le_of_ble_eq_true rfl) ?_
  intro M0 w0
  rw [Try.results44]
  refine amGo ?_
  ((try refine Or.inl ?_);refine ⟨_,(index_d xs x),.inl rfl,?_⟩;refine amC ?_)
  refine amGo ?_
  (simp only [xe,simprocAttr];refine ⟨_,rfl,rfl,Imp.eq ?_⟩)
  rw [idxOf_any,contains_any]
theorem l1Has_d (xs:List Int) (x:Int):Does Try.prog 26 [.sl (.ints xs),.int x] (.imm (.bool (xs.contains x))):=by
  refine spec_imm Try.func26 rfl Try.ntmps26 cfOK (fun _ _=>by kernel_rfl) rfl (Nat.le_of_ble_eq_true rfl) ?_
  intro M0 w0
  rw [Try.results26]
  (refine awp_fits 0 rfl fun hf => ?_;simp only [xp,simprocAttr] at hf;simp only [xf,simprocAttr] at hf)
  refine amGo ?_
  refine awp_rounds (α:=Nat) (fun k=>[(5,true,.int k)]) [0,1] (fun _=>[]) (fun k=>k≤xs.length∧∀ y∈xs.take k,x≠y) (fun k=>xs.length-k) 0 (by ((try simp only [xk]);(repeat (refine leK_cons ?_ ?_;first | (exact amE) | rotate_left));(try exact leK_nil rfl);(all_goals (try (simp only [xr,simprocAttr];try refine int_eq1 ?_))))) ⟨Nat.zero_le _,by simp⟩ fun k hk => ?_
  obtain ⟨hk,hp⟩:=hk
  simp only [xr,simprocAttr]
  refine amGo ?_
  refine awp_cond amQ (fun hc => ?_) (fun hc => ?_)
  · have hk':k<xs.length:=by have:=of_decide_eq_true hc;omega
    have hx:xs.getD k 0=xs[k]:=by simp [hk']
    refine amGo ?_
    refine awp_cond amQ (fun hd => ?_) (fun hd => ?_)
    · have hd:=of_decide_eq_true hd
      refine amGo ?_
      (simp only [xe,simprocAttr];refine ⟨_,rfl,rfl,Imp.eq ?_⟩)
      rw [show xs.contains x=true from List.contains_iff_mem.2 (by rw [← hd,hx];exact List.getElem_mem hk')]
    · have hd:=of_decide_eq_false hd
      refine amGo ?_
      refine ⟨k+1,by omega,fun y hy => ?_,by omega,.inl ?_⟩
      · rw [List.take_succ_eq_append_getElem hk',List.mem_append,List.mem_singleton] at hy
        rcases hy with hy | rfl
        · exact hp y hy
        · rw [← hx];exact fun e=>hd e.symm
      · ((try simp only [xk]);(repeat (refine leK_cons ?_ ?_;first | (exact amE) | rotate_left));(try exact leK_nil rfl);(all_goals (try (simp only [xr,simprocAttr];try refine int_eq1 ?_))))
  · have hk':k=xs.length:=by have:=of_decide_eq_false hc;omega
    subst hk'
    rw [List.take_length] at hp
    refine amGo ?_
    (simp only [xe,simprocAttr];refine ⟨_,rfl,rfl,Imp.eq ?_⟩)
    rw [show xs.contains x=false from Bool.eq_false_iff.2 fun h=>hp x (List.contains_iff_mem.1 h) rfl]
/-! ### the different numbers of a list -/
theorem rising_h (xs:List Int) (hn:xs.length≤1048576):DoesH Try.prog 47 [.sl (.ints xs)] [] [] (.lf (.own 0)) [.row 3 (.ints (rs xs))]:=by
  have h1:=srt_len xs
  refine spec_hB Try.func47 rfl Try.ntmps47 cfOK (fun _ _=>by kernel_rfl) rfl rfl rfl ?_
  intro M0 w0 S φ0
  rw [Try.results47]
  refine amGo ?_
  (refine .inr (.inl (callW_b (cln_a xs hn) rfl rfl rfl rfl rfl rfl rfl ?_));refine amC ?_)
  refine amGo ?_
  (refine .inr (.inl (callW_a [0] (sort_h xs (by omega)) rfl rfl rfl rfl ⟨rfl,trivial⟩ rfl rfl rfl rfl ?_));refine amC ?_)
  refine amGo ?_
  (refine .inr (.inl (callW_a [0] (compact_h (srt xs) (by omega)) rfl rfl rfl rfl ⟨rfl,trivial⟩ rfl rfl rfl rfl ?_));refine amC ?_)
  refine amGo ?_
  (simp only [ends_normal,ends_ret];refine retH_1 [0] rfl ⟨rfl,trivial⟩ rfl rfl rfl rfl rfl ?_;try rfl)
end Go.Proofs.Ytjblpcgkffhgfaa
