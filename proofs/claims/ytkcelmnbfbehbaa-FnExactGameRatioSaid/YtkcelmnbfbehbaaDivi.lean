/- Common divisors, and searches for cycles with a gain. Conditions: those that each names. -/
import Derived.Test.YtkcelmnbfbehbaaGED
import Derived.Test.YtkcelmnbfbehbaaGFR
set_option linter.all false
set_option linter.unusedSimpArgs false
set_option linter.unusedVariables false
namespace Go.Proofs.Ytkcelmnbfbehbaa
open Go Go.RowKit Am

theorem divisor_d (a b:Int) (ha:0≤a) (hb:0≤b) (ha2:a≤9223372036854775807) (hb2:b≤9223372036854775807):Does Try.prog 75 [.int a,.int b] (.imm (.int (Int.gcd a b))) :=
  does_val (v := .int .i64 (Int.gcd a b)) (fun _ _=>by kernel_rfl) fun M w us hm h=>by
    obtain ⟨u,us',rfl,k1,k2⟩:=args_inv h
    obtain ⟨u',us'',rfl,k3,k4⟩:=args_inv k2
    obtain rfl:=args_inv0 k4
    obtain rfl:u = .int .i64 a:=k1
    obtain rfl:u' = .int .i64 b:=k3
    exact (divisor_any w a b ha hb ha2 hb2).mono fun e w' ⟨h1,h2⟩=>⟨h1,h2.below _⟩
/-- a search ends, or finds a cycle with a gain -/
theorem pos_ex {E:List (List Int)} {n:Nat} {wt:List Int→Int} (hE:edIn E n):∃ r,PosR E wt n (rxR wt E) r∧((r=(0,0,false)∧∃ L,PotE E wt L)∨∃ v es,Wk E v es v∧es.length≤n∧0<sumE wt es∧r=(sumE cstE es,sumE grwE es,true)):=by
  rcases ends_or (rxR wt E) n with ⟨t,ht⟩ | hn
  · exact ⟨_,.inl ⟨t,ht,rfl⟩,.inl ⟨rfl,_,ht.pot fun s t=>BI.gs hE⟩⟩
  · obtain ⟨v,h1,h2,h3,p,hp⟩:=hn.cyc hE fun s t=>BI.gs hE
    exact ⟨_,.inr ⟨hn,v,p,h1,h2,h3,hp,rfl⟩,.inr ⟨_,_,hp.wk,hp.len,hp.gain,rfl⟩⟩
end Go.Proofs.Ytkcelmnbfbehbaa
