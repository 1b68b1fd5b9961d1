/- Numbers that a law writes through elements of some cells each, and reads again: the plain laws. Conditions: none. -/
import Derived.Test.YtjblpcgkffhgfaaListP
import Derived.Test.YtjblpcgkffhgfaaME
set_option linter.all false
set_option linter.unusedSimpArgs false
set_option linter.unusedVariables false
namespace Go.Proofs.Ytjblpcgkffhgfaa

/-- the first i elements are marked, and j cells of the next one -/
def mkKto (n:Nat) (k:Int) (xs:List (List Int)) (i j:Nat):List (List Int):=(List.range xs.length).map fun (a:Nat)=>(List.range n).map fun (o:Nat)=>if a<i∨(a=i∧o<j) then k+((a*n+o:Nat):Int) else (xs.getD a []).getD o 0
def mkK (n:Nat) (k:Int) (xs:List (List Int)):List (List Int):=(List.range xs.length).map fun (a:Nat)=>(List.range n).map fun (o:Nat)=>k+((a*n+o:Nat):Int)
theorem mkKto_len (n:Nat) (k:Int) (xs:List (List Int)) (i j:Nat):(mkKto n k xs i j).length=xs.length:=by simp [mkKto]
theorem mkK_len (n:Nat) (k:Int) (xs:List (List Int)):(mkK n k xs).length=xs.length:=by simp [mkK]
theorem range_self {x:List Int}:(List.range x.length).map (fun (o:Nat)=>x.getD o 0)=x:=by
  refine List.ext_getElem (by simp) fun j h1 h2 => ?_
  simp [h2]
theorem mkKto_0 {n:Nat} (k:Int) {xs:List (List Int)} (h:∀ x∈xs,x.length=n):mkKto n k xs 0 0=xs:=by
  refine List.ext_getElem? fun a => ?_
  unfold mkKto
  rw [List.getElem?_map]
  by_cases h2:a<xs.length
  · have h3:=h _ (List.getElem_mem h2)
    have e:∀ o,o<n→(if a<0∨(a=0∧o<0) then k+((a*n+o:Nat):Int) else (xs.getD a []).getD o 0)=xs[a].getD o 0:=fun o _=>by
      rw [if_neg (by omega)]
      simp [h2]
    rw [List.getElem?_range h2,List.getElem?_eq_getElem h2,Option.map_some]
    congr 1
    rw [rangeMap_congr e,← h3]
    exact range_self
  · rw [List.getElem?_eq_none (by simpa using h2),List.getElem?_eq_none (by omega)]
    rfl
theorem mkKto_next (n:Nat) (k:Int) (xs:List (List Int)) (i:Nat):mkKto n k xs i n=mkKto n k xs (i+1) 0:=by
  refine rangeMap_congr fun a _=>rangeMap_congr fun o ho => ?_
  by_cases h:a<i∨a=i
  · rw [if_pos (by omega),if_pos (by omega)]
  · rw [if_neg (by omega),if_neg (by omega)]
theorem mkKto_all (n:Nat) (k:Int) (xs:List (List Int)):mkKto n k xs xs.length 0=mkK n k xs:=rangeMap_congr fun _ ha=>rangeMap_congr fun _ _=>if_pos (.inl ha)
theorem mkKto_set {n:Nat} {k:Int} {xs:List (List Int)} {i j:Nat} (hi:i<xs.length) (hj:j<n):(mkKto n k xs i j).set i (((mkKto n k xs i j).getD i []).set j (k+((i*n+j:Nat):Int)))=mkKto n k xs i (j+1):=by
  have h1:(mkKto n k xs i j).getD i []=(List.range n).map fun (o:Nat)=>if i<i∨(i=i∧o<j) then k+((i*n+o:Nat):Int) else (xs.getD i []).getD o 0:=by
    unfold mkKto
    rw [rangeMap_getD _ _ hi]
  rw [h1]
  unfold mkKto
  rw [rangeMap_set,rangeMap_set]
  refine rangeMap_congr fun a _ => ?_
  by_cases e:a=i
  · subst e
    rw [if_pos rfl]
    refine rangeMap_congr fun o _ => ?_
    by_cases e2:o=j
    · subst e2
      rw [if_pos rfl,if_pos (by omega)]
    · rw [if_neg e2]
      by_cases h:o<j
      · rw [if_pos (by omega),if_pos (by omega)]
      · rw [if_neg (by omega),if_neg (by omega)]
  · rw [if_neg e]
    refine rangeMap_congr fun o _ => ?_
    by_cases h:a<i
    · rw [if_pos (.inl h),if_pos (.inl h)]
    · rw [if_neg (by omega),if_neg (by omega)]
theorem mkK_at {n:Nat} {k:Int} {xs:List (List Int)} {i j:Nat} (hi:i<xs.length) (hj:j<n):((mkK n k xs).getD i []).getD j 0=k+((i*n+j:Nat):Int):=by
  unfold mkK
  rw [rangeMap_getD _ _ hi,rangeMap_getD _ _ hj]
end Go.Proofs.Ytjblpcgkffhgfaa
/- Numbers that a law writes through fractions, on the machine. Conditions: lengths that a law allows. -/
set_option linter.all false
set_option linter.unusedSimpArgs false
set_option linter.unusedVariables false
namespace Go.Proofs.Ytjblpcgkffhgfaa
open Go Go.RowKit Am

theorem markF_h (k:Int) (xs:List (List Int)) (hk:0≤k∧k+(xs.length*2:Nat)≤1073741824) (hn:xs.length≤1048576) (hx:∀ x∈xs,x.length=2):DoesH Try.prog 16 [.lf (.own 0),.int k] [true] [.row 24 (.k 2 xs)] (.int (k+(xs.length*2:Nat))) [.row 24 (.k 2 (mkK 2 k xs))]:=by
  refine spec_hB Try.func16 rfl Try.ntmps16 cfOK (fun _ _=>by kernel_rfl) rfl rfl rfl ?_
  intro M0 w0 S φ0
  rw [Try.results16]
  refine amGo ?_
  refine awp_rounds (α:=Nat) (fun i=>[(5,true,.int i),(1,true,.int (k+(i*2:Nat)))]) [0] (fun i=>[.row 24 (.k 2 (mkKto 2 k xs i 0))]) (fun i=>i≤xs.length) (fun i=>xs.length-i) 0 (by ((try simp only [xk]);(repeat (refine leK_cons ?_ ?_;first | (exact amE) | rotate_left));(refine leK_nil ?_;exact (by rw [mkKto_0 k hx]));(all_goals (try (simp only [xr,simprocAttr];try refine int_eq1 ?_))));all_goals simp) (Nat.zero_le _) fun i hi => ?_
  have hl:=mkKto_len 2 k xs i 0
  simp only [xr,simprocAttr]
  refine amGo ?_
  refine awp_cond amQ (fun hc => ?_) (fun hc => ?_)
  · have hc:=of_decide_eq_true hc
    have hi':i<xs.length:=by omega
    have e1:(mkKto 2 k xs i 0).set i (((mkKto 2 k xs i 0).getD i []).set 0 (k+((i*2:Nat):Int)))=mkKto 2 k xs i 1:=mkKto_set (k:=k) hi' (by decide)
    have e2:(mkKto 2 k xs i 1).set i (((mkKto 2 k xs i 1).getD i []).set 1 (k+((i*2:Nat):Int)+1))=mkKto 2 k xs (i+1) 0:=by
      have:=mkKto_set (k:=k) (n:=2) (j:=1) hi' (by decide)
      rw [mkKto_next] at this
      rw [← this,show k+((i*2:Nat):Int)+1=k+((i*2+1:Nat):Int) by omega]
    refine amGo ?_
    refine ⟨i+1,by omega,by omega,.inl ?_⟩
    ((try simp only [xk]);(repeat (refine leK_cons ?_ ?_;first | (exact amE) | rotate_left));(refine leK_nil ?_;exact (by rw [e1,e2]));(all_goals (try (simp only [xr,simprocAttr];try refine int_eq1 ?_))))
  · have hc:=of_decide_eq_false hc
    have hi':i=xs.length:=by omega
    subst hi'
    rw [mkKto_all]
    refine amGo ?_
    (simp only [ends_normal,ends_ret];refine retH_1 [0] rfl ⟨rfl,trivial⟩ rfl rfl rfl rfl rfl ?_;try rfl)
theorem heldF_d (k:Int) (xs:List (List Int)) (hk:0≤k∧k+(xs.length*2:Nat)≤1073741824) (hn:xs.length≤1048576):Does Try.prog 18 [.sl (.k 2 (mkK 2 k xs)),.int k] (.imm (.int (k+(xs.length*2:Nat)))):=by
  have hl:=mkK_len 2 k xs
  refine spec_imm Try.func18 rfl Try.ntmps18 cfOK (fun _ _=>by kernel_rfl) rfl (Nat.le_of_ble_eq_true rfl) ?_
  intro M0 w0
  rw [Try.results18]
  refine amGo ?_
  refine awp_rounds (α:=Nat) (fun i=>[(5,true,.int i),(1,true,.int (k+(i*2:Nat)))]) [0] (fun _=>[]) (fun i=>i≤xs.length) (fun i=>xs.length-i) 0 (by ((try simp only [xk]);(repeat (refine leK_cons ?_ ?_;first | (exact amE) | rotate_left));(try exact leK_nil rfl);(all_goals (try (simp only [xr,simprocAttr];try refine int_eq1 ?_))));all_goals simp) (Nat.zero_le _) fun i hi => ?_
  simp only [xr,simprocAttr]
  refine amGo ?_
  refine awp_cond amQ (fun hc => ?_) (fun hc => ?_)
  · have hc:=of_decide_eq_true hc
    have hi':i<xs.length:=by omega
    have h0:=mkK_at (n:=2) (k:=k) (j:=0) hi' (by decide)
    have h1:=mkK_at (n:=2) (k:=k) (j:=1) hi' (by decide)
    refine amGo ?_
    rw [h0]
    refine awp_cond amQ (fun he => ?_) (fun he => ?_)
    · simp at he
    refine amGo ?_
    rw [h1]
    refine awp_cond amQ (fun he => ?_) (fun he => ?_)
    · simp at he
      omega
    refine amGo ?_
    refine ⟨i+1,by omega,by omega,.inl ?_⟩
    ((try simp only [xk]);(repeat (refine leK_cons ?_ ?_;first | (exact amE) | rotate_left));(try exact leK_nil rfl);(all_goals (try (simp only [xr,simprocAttr];try refine int_eq1 ?_))))
  · have hc:=of_decide_eq_false hc
    have hi':i=xs.length:=by omega
    subst hi'
    refine amGo ?_
    (simp only [xe,simprocAttr];refine ⟨_,rfl,rfl,Imp.eq ?_⟩)
    rfl
theorem markF_0 (k:Int):Does Try.prog 16 [.sl (.k 2 []),.int k] (.imm (.int k)):=by
  refine spec_imm Try.func16 rfl Try.ntmps16 cfOK (fun _ _=>by kernel_rfl) rfl (Nat.le_of_ble_eq_true rfl) ?_
  intro M0 w0
  rw [Try.results16]
  refine amGo ?_
  refine awp_rounds (α:=Nat) (fun _=>[(5,true,.int 0),(1,true,.int k)]) [0] (fun _=>[]) (fun _=>True) (fun i=>i) 0 (by ((try simp only [xk]);(repeat (refine leK_cons ?_ ?_;first | (exact amE) | rotate_left));(try exact leK_nil rfl);(all_goals (try (simp only [xr,simprocAttr];try refine int_eq1 ?_))))) trivial fun i _ => ?_
  simp only [xr,simprocAttr]
  refine amGo ?_
  refine awp_cond amQ (fun hc => ?_) (fun hc => ?_)
  · simp at hc
  · refine amGo ?_
    (simp only [xe,simprocAttr];refine ⟨_,rfl,rfl,Imp.eq ?_⟩)
    rfl
theorem heldF_0 (k:Int):Does Try.prog 18 [.sl (.k 2 []),.int k] (.imm (.int k)):=by
  refine spec_imm Try.func18 rfl Try.ntmps18 cfOK (fun _ _=>by kernel_rfl) rfl (Nat.le_of_ble_eq_true rfl) ?_
  intro M0 w0
  rw [Try.results18]
  refine amGo ?_
  refine awp_rounds (α:=Nat) (fun _=>[(5,true,.int 0),(1,true,.int k)]) [0] (fun _=>[]) (fun _=>True) (fun i=>i) 0 (by ((try simp only [xk]);(repeat (refine leK_cons ?_ ?_;first | (exact amE) | rotate_left));(try exact leK_nil rfl);(all_goals (try (simp only [xr,simprocAttr];try refine int_eq1 ?_))))) trivial fun i _ => ?_
  simp only [xr,simprocAttr]
  refine amGo ?_
  refine awp_cond amQ (fun hc => ?_) (fun hc => ?_)
  · simp at hc
  · refine amGo ?_
    (simp only [xe,simprocAttr];refine ⟨_,rfl,rfl,Imp.eq ?_⟩)
    rfl
end Go.Proofs.Ytjblpcgkffhgfaa
