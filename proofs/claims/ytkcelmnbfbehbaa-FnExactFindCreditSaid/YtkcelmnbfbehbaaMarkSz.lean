/- How many numbers a law's arguments hold, by their sizes. Conditions: none. -/
import Derived.Test.YtkcelmnbfbehbaaMK
import Derived.Test.YtkcelmnbfbehbaaGCT
set_option linter.all false
set_option linter.unusedSimpArgs false
set_option linter.unusedVariables false
namespace Go.Proofs.Ytkcelmnbfbehbaa

theorem szI_n {xs:List Int} {n:Int} (h:0≤szI xs n):szI xs n+(xs.length:Nat)≤n:=by
  unfold szI at h ⊢
  split at h
  · omega
  · rename_i h1
    rw [if_neg h1]
    omega
theorem szS_n {α:Type} {f:α→Int→Int} {N:α→Nat} (hf:∀ x {n},0≤f x n→f x n+(N x:Nat)≤n):∀ {xs:List α} {n:Int},0≤szS f xs n→szS f xs n+(szL N xs:Nat)≤n
  | [],n,_=>by simp [szS,szL]
  | x::l,n,h=>by
    unfold szS at h ⊢
    split at h
    · omega
    · rename_i h1
      rw [if_neg h1]
      have h2:=szS_n hf h
      have h3:=hf x (n:=n) (by omega)
      simp only [szL,List.map_cons,List.sum_cons] at h2 ⊢
      omega
theorem szO_n {α:Type} {f:α→Int→Int} {N:α→Nat} (hf:∀ x {n},0≤f x n→f x n+(N x:Nat)≤n) {xs:List α} {n:Int} (h:0≤szO f xs n):szO f xs n+(szL N xs:Nat)≤n:=by
  unfold szO at h ⊢
  split at h
  · omega
  · rename_i h1
    rw [if_neg h1]
    have h2:=szS_n hf h
    omega
theorem szII_n {xs:List (List Int)} {n:Int} (h:0≤szII xs n):szII xs n+(nII xs:Nat)≤n:=szO_n (f:=szI) (N:=List.length) (fun _ {_} h=>szI_n h) h
theorem szS2_n {α β:Type} {f:α→Int→Int} {g:β→Int→Int} {N:α→Nat} {N':β→Nat} (hf:∀ x {n},0≤f x n→f x n+(N x:Nat)≤n) (hg:∀ x {n},0≤g x n→g x n+(N' x:Nat)≤n) {a:α} {b:β} {n:Int} (h:0≤szS2 f g a b n):szS2 f g a b n+(N a:Nat)+(N' b:Nat)≤n:=by
  unfold szS2 at h ⊢
  split at h
  · omega
  · rename_i h1
    rw [if_neg h1]
    split at h
    · omega
    · rename_i h2
      rw [if_neg h2]
      have h3:=hf a (n:=n) (by omega)
      have h4:=hg b (n:=f a n) (by omega)
      omega
open Go Go.RowKit Am
theorem nil_av {M:Am.Mem} {c:Cn} {u:Value} (h0:c.len=0) (hok:c.ok) (h:(AV.val (.slice none 0 0)).rel noφ M u):(AV.sl c).rel noφ M u:=by
  obtain rfl:u = .slice none 0 0:=h
  exact nil_rel h0 hok
theorem eqI_n (xs:List Int):Does Try.prog 10 [.val (.slice none 0 0),.sl (.ints xs)] (.imm (.bool (decide ([]=xs)))) :=
  Does.args (eqI_d [] xs) fun M us ha=>by
    obtain ⟨u,us',rfl,h1,h2⟩:=args_inv ha
    exact args_cons (nil_av (c := .ints []) rfl trivial h1) h2
theorem markI_n (k:Int):Does Try.prog 13 [.val (.slice none 0 0),.int k] (.imm (.int k)) :=
  Does.args (markI_0 k) fun M us ha=>by
    obtain ⟨u,us',rfl,h1,h2⟩:=args_inv ha
    exact args_cons (nil_av (c := .ints []) rfl trivial h1) h2
theorem heldI_n (k:Int):Does Try.prog 14 [.val (.slice none 0 0),.int k] (.imm (.int k)) :=
  Does.args (heldI_0 k) fun M us ha=>by
    obtain ⟨u,us',rfl,h1,h2⟩:=args_inv ha
    exact args_cons (nil_av (c := .ints []) rfl trivial h1) h2
end Go.Proofs.Ytkcelmnbfbehbaa
