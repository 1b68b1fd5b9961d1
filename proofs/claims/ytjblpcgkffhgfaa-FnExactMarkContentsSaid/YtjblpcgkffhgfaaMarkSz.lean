/- How many numbers a law's arguments hold, by their sizes. Conditions: none. -/
import Derived.Test.YtjblpcgkffhgfaaMK
import Derived.Test.YtjblpcgkffhgfaaGCT
set_option linter.all false
set_option linter.unusedSimpArgs false
set_option linter.unusedVariables false
namespace Go.Proofs.Ytjblpcgkffhgfaa

theorem szL_bd {α:Type} {N:α→Nat} {B:Nat}:∀ {xs:List α},(∀ x∈xs,N x≤B)→szL N xs≤xs.length*B
  | [],_=>by simp [szL]
  | x::xs,h=>by
    have h1:=h x (by simp)
    have h2:=szL_bd (N:=N) (xs:=xs) fun y hy=>h y (by simp [hy])
    simp only [szL,List.map_cons,List.sum_cons,List.length_cons] at h2 ⊢
    rw [Nat.succ_mul]
    omega
open Go Go.RowKit Am
theorem nil_av {M:Am.Mem} {c:Cn} {u:Value} (h0:c.len=0) (hok:c.ok) (h:(AV.val (.slice none 0 0)).rel noφ M u):(AV.sl c).rel noφ M u:=by
  obtain rfl:u = .slice none 0 0:=h
  exact nil_rel h0 hok
theorem eqII_n (xs:List (List Int)):Does Try.prog 12 [.val (.slice none 0 0),.sl (.ii xs)] (.imm (.bool (decide ([]=xs)))) :=
  Does.args (eqII_d [] xs) fun M us ha=>by
    obtain ⟨u,us',rfl,h1,h2⟩:=args_inv ha
    exact args_cons (nil_av (c := .ii []) rfl trivial h1) h2
theorem markII_n (k:Int):Does Try.prog 15 [.val (.slice none 0 0),.int k] (.imm (.int k)) :=
  Does.args (markII_0 k) fun M us ha=>by
    obtain ⟨u,us',rfl,h1,h2⟩:=args_inv ha
    exact args_cons (nil_av (c := .ii []) rfl trivial h1) h2
theorem heldII_n (k:Int):Does Try.prog 17 [.val (.slice none 0 0),.int k] (.imm (.int k)) :=
  Does.args (heldII_0 k) fun M us ha=>by
    obtain ⟨u,us',rfl,h1,h2⟩:=args_inv ha
    exact args_cons (nil_av (c := .ii []) rfl trivial h1) h2
end Go.Proofs.Ytjblpcgkffhgfaa
