/- All steps of a game: the plain laws. Conditions: games that are whole. -/
import Derived.Test.YtlhdeofkhajigaaGreatGA
set_option linter.all false
set_option linter.unusedSimpArgs false
set_option linter.unusedVariables false
namespace Go.Proofs.YtlhdeofkhajigaaGreat

/-- what is told of a choice: from, request, state, to, cost, growth -/
def p6 (c:List Int):List Int:=[c.getD 0 0,c.getD 4 0,c.getD 5 0,c.getD 1 0,c.getD 2 0,c.getD 3 0]
def s2 (a:List (List (List Int))):List (List Int):=a.flatMap fun row=>row.map p6
def s1 (ch:List (List (List (List Int)))):List (List Int):=ch.flatMap s2
end Go.Proofs.YtlhdeofkhajigaaGreat
/- Credits and holds of games: the plain laws. Conditions: games that are whole. -/
set_option linter.all false
set_option linter.unusedSimpArgs false
set_option linter.unusedVariables false
namespace Go.Proofs.YtlhdeofkhajigaaGreat

/-- what a choice gains with a ratio of num and den -/
def gainC (num den:Int) (c:List Int):Int:=den*c.getD 2 0-num*c.getD 3 0
end Go.Proofs.YtlhdeofkhajigaaGreat
