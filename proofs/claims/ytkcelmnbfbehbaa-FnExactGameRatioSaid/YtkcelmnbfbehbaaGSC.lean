/- All steps of a game: the plain laws. Conditions: games that are whole. -/
import Derived.Test.YtkcelmnbfbehbaaGA
set_option linter.all false
set_option linter.unusedSimpArgs false
set_option linter.unusedVariables false
namespace Go.Proofs.Ytkcelmnbfbehbaa

/-- what is told of a choice: from, request, state, to, cost, growth -/
def p6 (c:List Int):List Int:=[c.getD 0 0,c.getD 4 0,c.getD 5 0,c.getD 1 0,c.getD 2 0,c.getD 3 0]
def s2 (a:List (List (List Int))):List (List Int):=a.flatMap fun row=>row.map p6
def s1 (ch:List (List (List (List Int)))):List (List Int):=ch.flatMap s2
theorem row_len {m s:List (List Int)} {n f r:Nat} {row:List (List Int)} (hp:probB m s=true) (h:RowOK m s n f r row):row.length≤4:=by
  have h1:=congrArg List.length h.st
  rw [List.length_map] at h1
  have h2:=srv_len s m.length r
  have h3:=prob_len hp
  omega
end Go.Proofs.Ytkcelmnbfbehbaa
/- Credits and holds of games: the plain laws. Conditions: games that are whole. -/
set_option linter.all false
set_option linter.unusedSimpArgs false
set_option linter.unusedVariables false
namespace Go.Proofs.Ytkcelmnbfbehbaa

/-- what a choice gains with a ratio of num and den -/
def gainC (num den:Int) (c:List Int):Int:=den*c.getD 2 0-num*c.getD 3 0
def toC (c:List Int):Nat:=(c.getD 1 0).toNat
theorem gain_bd {m:List (List Int)} {n f r:Nat} {c:List Int} (h:elOK m n f r c) {num den:Int} (h1:0≤num) (h2:num≤1000000000) (h3:0≤den) (h4:den≤1000000000):toC c<n∧c.getD 1 0=(toC c:Int)∧c.getD 0 0=(f:Int)∧0≤c.getD 2 0∧c.getD 2 0≤119∧0≤c.getD 3 0∧c.getD 3 0≤100000∧0≤den*c.getD 2 0∧den*c.getD 2 0≤119000000000∧0≤num*c.getD 3 0∧num*c.getD 3 0≤100000000000000:=by
  obtain ⟨k,u,a,b,rfl,k1,k2,k3,k4,k5,k6⟩:=h
  have e1:0≤den*a:=Int.mul_nonneg h3 k3
  have e2:den*a≤1000000000*119:=Int.mul_le_mul h4 k4 k3 (by omega)
  have e3:0≤num*b:=Int.mul_nonneg h1 k5
  have e4:num*b≤1000000000*100000:=Int.mul_le_mul h2 (Int.le_trans k6 (by decide)) k5 (by omega)
  refine ⟨?_,?_,rfl,k3,k4,k5,Int.le_trans k6 (by decide),e1,by simpa using e2,e3,by simpa using e4⟩
  · show ((k:Int)).toNat<n
    omega
  · show (k:Int)=(((k:Int)).toNat:Int)
    omega
end Go.Proofs.Ytkcelmnbfbehbaa
