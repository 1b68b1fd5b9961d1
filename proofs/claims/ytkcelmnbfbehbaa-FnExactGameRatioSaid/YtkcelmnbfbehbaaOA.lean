/- Tables of distances: the plain laws. Conditions: none. -/
import Derived.Test.YtkcelmnbfbehbaaGBA
set_option linter.all false
set_option linter.unusedSimpArgs false
set_option linter.unusedVariables false
namespace Go.Proofs.Ytkcelmnbfbehbaa

def at2 (m:List (List Int)) (x y:Nat):Int:=(m.getD x []).getD y 0
theorem at2_eq {m:List (List Int)} {x y:Nat} (hx:x<m.length) (hy:y<m[x].length):at2 m x y=m[x][y]:=by
  unfold at2
  rw [List.getD_eq_getElem?_getD,List.getD_eq_getElem?_getD,List.getElem?_eq_getElem hx]
  show ((m[x])[y]?).getD 0=_
  rw [List.getElem?_eq_getElem hy]
  rfl
/-- does p hold below n -/
def allLt (n:Nat) (p:Nat→Bool):Bool:=(List.range n).all p
theorem allLt_iff {n:Nat} {p:Nat→Bool}:allLt n p=true↔∀ i,i<n→p i=true:=by simp [allLt]
theorem allLt_no {n:Nat} {p:Nat→Bool} {i:Nat} (hi:i<n) (h:p i=false):allLt n p=false:=by
  rw [Bool.eq_false_iff]
  intro hh
  rw [allLt_iff.1 hh i hi] at h
  cases h
theorem allLt_step {p:Nat→Bool} {k:Nat} (h:∀ i,i<k→p i=true) (hk:p k=true):∀ i,i<k+1→p i=true:=fun i hi=>by
  rcases Nat.lt_or_ge i k with h1 | h1
  · exact h i h1
  · have:i=k:=by omega
    subst this
    exact hk
def cellOk (m:List (List Int)) (x y:Nat):Bool:=decide (at2 m x y=at2 m y x∧(x=y→at2 m x y=0)∧(x≠y→1≤at2 m x y∧at2 m x y≤99))
theorem cellOk_iff {m:List (List Int)} {x y:Nat}:cellOk m x y=true↔at2 m x y=at2 m y x∧(x=y→at2 m x y=0)∧(x≠y→1≤at2 m x y∧at2 m x y≤99):=by unfold cellOk;exact decide_eq_true_iff
def sqB (m:List (List Int)):Bool:=m.all fun r=>r.length == m.length
theorem sqB_iff {m:List (List Int)}:sqB m=true↔∀ r∈m,r.length=m.length:=by simp [sqB]
theorem sqB_no {m:List (List Int)} {k:Nat} (hk:k<m.length) (h:m[k].length≠m.length):sqB m=false:=by
  rw [Bool.eq_false_iff]
  intro hh
  exact h (sqB_iff.1 hh _ (List.getElem_mem hk))
def tabB (m:List (List Int)):Bool:=allLt m.length fun x=>allLt m.length (cellOk m x)
theorem tabB_no {m:List (List Int)} {x y:Nat} (hx:x<m.length) (hy:y<m.length) (h:cellOk m x y=false):tabB m=false:=allLt_no hx (allLt_no hy h)
def detOk (m:List (List Int)) (x y z:Nat):Bool:=decide (at2 m x z≤at2 m x y+at2 m y z)
def noDet (m:List (List Int)):Bool:=allLt m.length fun x=>allLt m.length fun y=>allLt m.length (detOk m x y)
theorem noDet_no {m:List (List Int)} {x y z:Nat} (hx:x<m.length) (hy:y<m.length) (hz:z<m.length) (h:detOk m x y z=false):noDet m=false:=allLt_no hx (allLt_no hy (allLt_no hz h))
theorem tab_bound {m:List (List Int)} (h:tabB m=true) {x y:Nat} (hx:x<m.length) (hy:y<m.length):0≤at2 m x y∧at2 m x y≤99:=by
  have:=cellOk_iff.1 (allLt_iff.1 (allLt_iff.1 h x hx) y hy)
  by_cases e:x=y
  · have:=this.2.1 e
    omega
  · have:=this.2.2 e
    omega
end Go.Proofs.Ytkcelmnbfbehbaa
/- Weights: whether numbers are in a range, their sum, their greatest, by the program's and the reference's functions. Conditions: bounds where sums are made. -/
set_option linter.all false
set_option linter.unusedSimpArgs false
set_option linter.unusedVariables false
namespace Go.Proofs.Ytkcelmnbfbehbaa
open Go.RowKit

/-- are all numbers in lo..hi -/
def allIn (lo hi:Int) (xs:List Int):Bool:=xs.all fun x=>rng x lo hi
theorem allIn_iff {lo hi:Int} {xs:List Int}:allIn lo hi xs=true↔∀ x∈xs,lo≤x∧x≤hi:=by simp [allIn,rng]
theorem allIn_no {lo hi:Int} {xs:List Int} {x:Int} (h:x∈xs) (hx:rng x lo hi=false):allIn lo hi xs=false:=by
  rw [Bool.eq_false_iff]
  intro hh
  have:=allIn_iff.1 hh x h
  rw [rng_yes this.1 this.2] at hx
  cases hx

theorem cell_of_below {w w':World} {a:Addr} {v:Value} (hb:Below w.heap.size w w') (h:w.cell? a=some v):w'.cell? a=some v:=(hb.cell (block_lt h)).trans h

end Go.Proofs.Ytkcelmnbfbehbaa
/- Algorithms, mixtures: the plain laws. Conditions: none. -/
set_option linter.all false
set_option linter.unusedSimpArgs false
set_option linter.unusedVariables false
namespace Go.Proofs.Ytkcelmnbfbehbaa

end Go.Proofs.Ytkcelmnbfbehbaa
