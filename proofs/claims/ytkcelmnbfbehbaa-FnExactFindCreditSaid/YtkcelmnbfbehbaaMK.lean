/- Numbers that a law writes through a result and reads again: the plain laws. Conditions: none. -/
import Derived.Test.YtkcelmnbfbehbaaListP
import Derived.Test.YtkcelmnbfbehbaaME
set_option linter.all false
set_option linter.unusedSimpArgs false
set_option linter.unusedVariables false
namespace Go.Proofs.Ytkcelmnbfbehbaa

def mkI (k:Int) (xs:List Int):List Int:=(List.range xs.length).map fun (j:Nat)=>k+(j:Int)
/-- a row of which the first i are marked -/
def mkTo (k:Int) (xs:List Int) (i:Nat):List Int:=(List.range xs.length).map fun (j:Nat)=>if j<i then k+(j:Int) else xs.getD j 0
theorem mkI_len (k:Int) (xs:List Int):(mkI k xs).length=xs.length:=by simp [mkI]
theorem mkTo_len (k:Int) (xs:List Int) (i:Nat):(mkTo k xs i).length=xs.length:=by simp [mkTo]
theorem mkTo_0 (k:Int) (xs:List Int):mkTo k xs 0=xs:=by
  refine List.ext_getElem? fun j => ?_
  unfold mkTo
  rw [List.getElem?_map]
  by_cases h:j<xs.length
  · rw [List.getElem?_range h]
    simp [h]
  · rw [List.getElem?_eq_none (by simpa using h),List.getElem?_eq_none (by omega)]
    rfl
theorem mkTo_all (k:Int) (xs:List Int):mkTo k xs xs.length=mkI k xs:=rangeMap_congr fun j hj=>if_pos hj
theorem mkTo_set (k:Int) (xs:List Int) (i:Nat):(mkTo k xs i).set i (k+(i:Int))=mkTo k xs (i+1):=by
  unfold mkTo
  rw [rangeMap_set]
  refine rangeMap_congr fun j _ => ?_
  by_cases e:j=i
  · subst e
    rw [if_pos rfl,if_pos (by omega)]
  · rw [if_neg e]
    by_cases h:j<i
    · rw [if_pos h,if_pos (by omega)]
    · rw [if_neg h,if_neg (by omega)]
theorem mkI_at {k:Int} {xs:List Int} {j:Nat} (h:j<xs.length):(mkI k xs).getD j 0=k+(j:Int):=rangeMap_getD _ _ h
/-- the same, a level further out: mk marks one element, sz is its number of cells -/
def mkL {α:Type} (mk:Int→α→α) (sz:α→Nat):Int→List α→List α
  | _,[]=>[]
  | k,x::xs=>mk k x::mkL mk sz (k+sz x) xs
def szL {α:Type} (sz:α→Nat) (xs:List α):Nat:=(xs.map sz).sum
section
variable {α:Type} {mk:Int→α→α} {sz:α→Nat} {d:α}
theorem mkL_len:∀ (k:Int) (xs:List α),(mkL mk sz k xs).length=xs.length
  | _,[]=>rfl
  | k,x::xs=>by simp [mkL,mkL_len _ xs]
theorem mkL_app:∀ (k:Int) (xs ys:List α),mkL mk sz k (xs++ys)=mkL mk sz k xs++mkL mk sz (k+szL sz xs) ys
  | k,[],ys=>by simp [mkL,szL]
  | k,x::xs,ys=>by
    simp only [List.cons_append,mkL,mkL_app _ xs ys,szL,List.map_cons,List.sum_cons]
    congr 3
    omega
theorem szL_take {xs:List α} {i:Nat} (h:i<xs.length) (d:α):szL sz (xs.take (i+1))=szL sz (xs.take i)+sz (xs.getD i d):=by
  unfold szL
  rw [take_getD h d,List.map_append,List.sum_append]
  simp
theorem szL_take_le {xs:List α} (i:Nat):szL sz (xs.take i)≤szL sz xs:=by
  have h:szL sz (xs.take i++xs.drop i)=szL sz (xs.take i)+szL sz (xs.drop i):=by unfold szL;rw [List.map_append,List.sum_append]
  rw [List.take_append_drop] at h
  omega
/-- the first i elements are marked -/
def mkLto (mk:Int→α→α) (sz:α→Nat) (k:Int) (xs:List α) (i:Nat):List α:=mkL mk sz k (xs.take i)++xs.drop i
theorem mkLto_0 (k:Int) (xs:List α):mkLto mk sz k xs 0=xs:=by simp [mkLto,mkL]
theorem mkLto_all (k:Int) (xs:List α):mkLto mk sz k xs xs.length=mkL mk sz k xs:=by simp [mkLto]
theorem mkLto_len {k:Int} {xs:List α} {i:Nat} (h:i≤xs.length):(mkLto mk sz k xs i).length=xs.length:=by
  unfold mkLto
  rw [List.length_append,mkL_len,List.length_take,List.length_drop]
  omega
theorem mkLto_at {k:Int} {xs:List α} {i:Nat} (h:i<xs.length) (d:α):(mkLto mk sz k xs i).getD i d=xs.getD i d:=by
  unfold mkLto
  have hl:(mkL mk sz k (xs.take i)).length=i:=by rw [mkL_len,List.length_take];omega
  rw [List.getD_eq_getElem?_getD,List.getD_eq_getElem?_getD,List.getElem?_append_right (by omega),hl,Nat.sub_self,List.getElem?_drop]
  simp
theorem mkLto_set {k:Int} {xs:List α} {i:Nat} (h:i<xs.length) (d:α):(mkLto mk sz k xs i).set i (mk (k+szL sz (xs.take i)) (xs.getD i d))=mkLto mk sz k xs (i+1):=by
  unfold mkLto
  have hl:(mkL mk sz k (xs.take i)).length=i:=by rw [mkL_len,List.length_take];omega
  rw [List.set_append_right _ _ (by omega),hl,Nat.sub_self,take_getD h d,mkL_app,List.append_assoc]
  congr 1
  rw [List.drop_eq_getElem_cons h,List.set_cons_zero]
  rfl
end
abbrev mkII:Int→List (List Int)→List (List Int):=mkL mkI List.length
abbrev nII:List (List Int)→Nat:=szL List.length
end Go.Proofs.Ytkcelmnbfbehbaa
/- The numbers that a law writes through its arguments and its results, and reads again, on the machine. Conditions: lengths that a law allows. -/
set_option linter.all false
set_option linter.unusedSimpArgs false
set_option linter.unusedVariables false
namespace Go.Proofs.Ytkcelmnbfbehbaa
open Go Go.RowKit Am

theorem markI_h (k:Int) (xs:List Int) (hk:0≤k∧k≤1073741824) (hn:xs.length≤1048576):DoesH Try.prog 13 [.lf (.own 0),.int k] [true] [.row 3 (.ints xs)] (.int (k+xs.length)) [.row 3 (.ints (mkI k xs))]:=by
  refine spec_hB Try.func13 rfl Try.ntmps13 cfOK (fun _ _=>by kernel_rfl) rfl rfl rfl ?_
  intro M0 w0 S φ0
  rw [Try.results13]
  refine amGo ?_
  refine awp_rounds (α:=Nat) (fun i=>[(5,true,.int i),(1,true,.int (k+(i:Int)))]) [0] (fun i=>[.row 3 (.ints (mkTo k xs i))]) (fun i=>i≤xs.length) (fun i=>xs.length-i) 0 (by ((try simp only [xk]);(repeat (refine leK_cons ?_ ?_;first | (exact amE) | rotate_left));(refine leK_nil ?_;exact (by rw [mkTo_0]));(all_goals (try (simp only [xr,simprocAttr];try refine int_eq1 ?_))))) (Nat.zero_le _) fun i hi => ?_
  have hl:=mkTo_len k xs i
  simp only [xr,simprocAttr]
  refine amGo ?_
  refine awp_cond amQ (fun hc => ?_) (fun hc => ?_)
  · have hc:=of_decide_eq_true hc
    have hi':i<xs.length:=by omega
    refine amGo ?_
    rw [mkTo_set]
    refine ⟨i+1,by omega,by omega,.inl ?_⟩
    ((try simp only [xk]);(repeat (refine leK_cons ?_ ?_;first | (exact amE) | rotate_left));(try exact leK_nil rfl);(all_goals (try (simp only [xr,simprocAttr];try refine int_eq1 ?_))))
  · have hc:=of_decide_eq_false hc
    have hi':i=xs.length:=by omega
    subst hi'
    rw [mkTo_all]
    refine amGo ?_
    (simp only [ends_normal,ends_ret];refine retH_1 [0] rfl ⟨rfl,trivial⟩ rfl rfl rfl rfl rfl ?_;try rfl)
theorem heldI_d (k:Int) (xs:List Int) (hk:0≤k∧k≤1073741824) (hn:xs.length≤1048576):Does Try.prog 14 [.sl (.ints (mkI k xs)),.int k] (.imm (.int (k+xs.length))):=by
  have hl:=mkI_len k xs
  refine spec_imm Try.func14 rfl Try.ntmps14 cfOK (fun _ _=>by kernel_rfl) rfl (Nat.le_of_ble_eq_true rfl) ?_
  intro M0 w0
  rw [Try.results14]
  refine amGo ?_
  refine awp_rounds (α:=Nat) (fun i=>[(5,true,.int i),(1,true,.int (k+(i:Int)))]) [0] (fun _=>[]) (fun i=>i≤xs.length) (fun i=>xs.length-i) 0 (by ((try simp only [xk]);(repeat (refine leK_cons ?_ ?_;first | (exact amE) | rotate_left));(try exact leK_nil rfl);(all_goals (try (simp only [xr,simprocAttr];try refine int_eq1 ?_))))) (Nat.zero_le _) fun i hi => ?_
  simp only [xr,simprocAttr]
  refine amGo ?_
  refine awp_cond amQ (fun hc => ?_) (fun hc => ?_)
  · have hc:=of_decide_eq_true hc
    have hi':i<xs.length:=by omega
    refine amGo ?_
    rw [mkI_at hi']
    refine awp_cond amQ (fun hd => ?_) (fun hd => ?_)
    · simp at hd
    refine amGo ?_
    refine ⟨i+1,by omega,by omega,.inl ?_⟩
    ((try simp only [xk]);(repeat (refine leK_cons ?_ ?_;first | (exact amE) | rotate_left));(try exact leK_nil rfl);(all_goals (try (simp only [xr,simprocAttr];try refine int_eq1 ?_))))
  · have hc:=of_decide_eq_false hc
    have hi':i=xs.length:=by omega
    subst hi'
    refine amGo ?_
    (simp only [xe,simprocAttr];refine ⟨_,rfl,rfl,Imp.eq ?_⟩)
    rfl
theorem markII_h (k:Int) (xs:List (List Int)) (hk:0≤k∧k+nII xs≤1073741824) (hn:xs.length≤1048576) (hs:∀ x∈xs,x.length≤1048576):DoesH Try.prog 29 [.lf (.own 0),.int k] [true] [.tree [28,3] (.ii xs)] (.int (k+nII xs)) [.tree [28,3] (.ii (mkII k xs))]:=by
  refine spec_hB Try.func29 rfl Try.ntmps29 cfOK (fun _ _=>by kernel_rfl) rfl rfl rfl ?_
  intro M0 w0 S φ0
  rw [Try.results29]
  refine amGo ?_
  refine awp_rounds (α:=Nat) (fun i=>[(5,true,.int i),(1,true,.int (k+szL List.length (xs.take i)))]) [0] (fun i=>[.tree [28,3] (.ii (mkLto mkI List.length k xs i))]) (fun i=>i≤xs.length) (fun i=>xs.length-i) 0 (by ((try simp only [xk]);(repeat (refine leK_cons ?_ ?_;first | (exact amE) | rotate_left));(refine leK_nil ?_;exact (by rw [mkLto_0]));(all_goals (try (simp only [xr,simprocAttr];try refine int_eq1 ?_))));all_goals (simp [szL])) (Nat.zero_le _) fun i hi => ?_
  have hl:=mkLto_len (mk:=mkI) (sz:=List.length) (k:=k) hi
  simp only [xr,simprocAttr]
  refine amGo ?_
  refine awp_cond amQ (fun hc => ?_) (fun hc => ?_)
  · have hc:=of_decide_eq_true hc
    have hi':i<xs.length:=by omega
    have hx:xs.getD i []∈xs:=by simp [hi']
    have h1:=szL_take (sz:=List.length) hi' []
    have h2:=szL_take_le (sz:=List.length) (xs:=xs) (i+1)
    have hk':0≤k∧k+(szL List.length xs:Nat)≤1073741824:=hk
    have hat:=mkLto_at (mk:=mkI) (sz:=List.length) (k:=k) hi' []
    have hst:=mkLto_set (mk:=mkI) (sz:=List.length) (k:=k) hi' []
    refine amGo ?_
    rw [hat]
    (refine .inr (.inl (callW_a [1] (markI_h (k+szL List.length (xs.take i)) (xs.getD i []) ⟨by omega,by omega⟩ (hs _ hx)) rfl rfl rfl rfl ⟨rfl,trivial⟩ rfl rfl rfl rfl ?_));refine amC ?_)
    (refine awp_unf 0 rfl (by decide) rfl rfl amT rfl ?_;simp only [xu,simprocAttr])
    rw [hst]
    refine amGo ?_
    refine ⟨i+1,by omega,by omega,.inr ⟨1,Nat.le_of_ble_eq_true rfl,leT_of ?_ rfl rfl rfl⟩⟩
    ((try simp only [xk]);(repeat (refine leK_cons ?_ ?_;first | (exact amE) | rotate_left));(try exact leK_nil rfl);(all_goals (try (simp only [xr,simprocAttr];try refine int_eq1 ?_))))
  · have hc:=of_decide_eq_false hc
    have hi':i=xs.length:=by omega
    subst hi'
    rw [mkLto_all,List.take_length]
    refine amGo ?_
    (simp only [ends_normal,ends_ret];refine retH_1 [0] rfl ⟨rfl,trivial⟩ rfl rfl rfl rfl rfl ?_;try rfl)
theorem markI_0 (k:Int):Does Try.prog 13 [.sl (.ints []),.int k] (.imm (.int k)):=by
  refine spec_imm Try.func13 rfl Try.ntmps13 cfOK (fun _ _=>by kernel_rfl) rfl (Nat.le_of_ble_eq_true rfl) ?_
  intro M0 w0
  rw [Try.results13]
  refine amGo ?_
  refine awp_rounds (α:=Nat) (fun _=>[(5,true,.int 0),(1,true,.int k)]) [0] (fun _=>[]) (fun _=>True) (fun i=>i) 0 (by ((try simp only [xk]);(repeat (refine leK_cons ?_ ?_;first | (exact amE) | rotate_left));(try exact leK_nil rfl);(all_goals (try (simp only [xr,simprocAttr];try refine int_eq1 ?_))))) trivial fun i _ => ?_
  simp only [xr,simprocAttr]
  refine amGo ?_
  refine awp_cond amQ (fun hc => ?_) (fun hc => ?_)
  · simp at hc
  · refine amGo ?_
    (simp only [xe,simprocAttr];refine ⟨_,rfl,rfl,Imp.eq ?_⟩)
    rfl
theorem heldI_0 (k:Int):Does Try.prog 14 [.sl (.ints []),.int k] (.imm (.int k)):=by
  refine spec_imm Try.func14 rfl Try.ntmps14 cfOK (fun _ _=>by kernel_rfl) rfl (Nat.le_of_ble_eq_true rfl) ?_
  intro M0 w0
  rw [Try.results14]
  refine amGo ?_
  refine awp_rounds (α:=Nat) (fun _=>[(5,true,.int 0),(1,true,.int k)]) [0] (fun _=>[]) (fun _=>True) (fun i=>i) 0 (by ((try simp only [xk]);(repeat (refine leK_cons ?_ ?_;first | (exact amE) | rotate_left));(try exact leK_nil rfl);(all_goals (try (simp only [xr,simprocAttr];try refine int_eq1 ?_))))) trivial fun i _ => ?_
  simp only [xr,simprocAttr]
  refine amGo ?_
  refine awp_cond amQ (fun hc => ?_) (fun hc => ?_)
  · simp at hc
  · refine amGo ?_
    (simp only [xe,simprocAttr];refine ⟨_,rfl,rfl,Imp.eq ?_⟩)
    rfl
theorem markProblem_h (k:Int) (m s:List (List Int)) (hk:0≤k∧k+nII m+nII s≤1073741824) (hm:m.length≤1048576) (hms:∀ x∈m,x.length≤1048576) (hs:s.length≤1048576) (hss:∀ x∈s,x.length≤1048576) :
    DoesH Try.prog 12 [.tv (.agg [.own 0,.own 1]),.int k] [true,true] [.tree [28,3] (.ii m),.tree [28,3] (.ii s)] (.int (k+nII m+nII s)) [.tree [28,3] (.ii (mkII k m)),.tree [28,3] (.ii (mkII (k+nII m) s))]:=by
  refine spec_hB Try.func12 rfl Try.ntmps12 cfOK (fun _ _=>by kernel_rfl) rfl rfl rfl ?_
  intro M0 w0 S φ0
  rw [Try.results12]
  refine amGo ?_
  (refine .inr (.inl (callW_a [0] (markII_h k m ⟨by omega,by omega⟩ hm hms) rfl rfl rfl rfl ⟨rfl,trivial⟩ rfl rfl rfl rfl ?_));refine amC ?_)
  refine amGo ?_
  (refine .inr (.inl (callW_a [1] (markII_h (k+nII m) s ⟨by omega,by omega⟩ hs hss) rfl rfl rfl rfl ⟨rfl,trivial⟩ rfl rfl rfl rfl ?_));refine amC ?_)
  refine amGo ?_
  (simp only [ends_normal,ends_ret];refine retH_1 [0,1] rfl ⟨rfl,rfl,trivial⟩ rfl rfl rfl rfl rfl ?_;try rfl)
end Go.Proofs.Ytkcelmnbfbehbaa
