/- Lists in new memory, on the machine: the program's. Conditions: small tables. -/
import Derived.Test.YtjblpcgkffhgfaaGreatClone0
import Derived.Test.YtjblpcgkffhgfaaGreatListP
set_option linter.all false
set_option linter.unusedSimpArgs false
set_option linter.unusedVariables false
namespace Go.Proofs.YtjblpcgkffhgfaaGreat
open Go Go.RowKit Am

theorem ownTable_h (m:List (List Int)) (hm:m.length≤1000) (hr:∀ r∈m,r.length≤100):DoesH Tryz.prog 63 [.sl (.ii m)] [] [] (.lf (.own 0)) [.tree [24,3] (.ii m)]:=by
  refine spec_hB Tryz.func63 rfl Tryz.ntmps63 cfOK (fun _ _=>by kernel_rfl) rfl rfl rfl ?_
  intro M0 w0 S φ0
  rw [Tryz.results63]
  refine amGo ?_
  (refine awp_toT 0 3 [] rfl rfl rfl ?_;simp only [xu,simprocAttr])
  refine awp_rounds (α:=Nat) (fun k=>[(9,true,.int k)]) [3,7,8] (fun k=>[.tree [24,3] (.ii (m.take k))]) (fun k=>k≤m.length) (fun k=>m.length-k) 0 (by ((try simp only [xk]);(repeat (refine leK_cons ?_ ?_;first | (exact amE) | rotate_left));(refine leK_nil ?_;exact (by rfl));(all_goals (try (simp only [xr,simprocAttr];try refine int_eq1 ?_))))) (Nat.zero_le _) fun k hk => ?_
  have hml:(m.take k).length≤k:=by rw [List.length_take];omega
  simp only [xr,simprocAttr]
  refine amGo ?_
  refine awp_cond amQ (fun hc => ?_) (fun hc => ?_)
  · have hc:=of_decide_eq_true hc
    have hk':k<m.length:=by omega
    have hrl:(m.getD k []).length≤100:=by rw [getD_in hk'];exact hr _ (List.getElem_mem _)
    have hnx:=take_getD hk' []
    refine amGo ?_
    (refine .inr (.inl (callW_b (cln_a (m.getD k []) (by omega)) rfl rfl rfl rfl rfl rfl rfl ?_));refine amC ?_)
    refine amGo ?_
    refine ⟨k+1,by omega,by omega,.inr ⟨1,Nat.le_of_ble_eq_true rfl,leT_of ?_ rfl rfl rfl⟩⟩
    ((try simp only [xk]);(repeat (refine leK_cons ?_ ?_;first | (exact amE) | rotate_left));(refine leK_nil ?_;exact (by rw [hnx];rfl));(all_goals (try (simp only [xr,simprocAttr];try refine int_eq1 ?_))))
  · have hc:=of_decide_eq_false hc
    obtain rfl:k=m.length:=by omega
    rw [List.take_length]
    refine amGo ?_
    (simp only [ends_normal,ends_ret];refine retH_1 [0] rfl ⟨rfl,trivial⟩ rfl rfl rfl rfl rfl ?_;try rfl)
end Go.Proofs.YtjblpcgkffhgfaaGreat
