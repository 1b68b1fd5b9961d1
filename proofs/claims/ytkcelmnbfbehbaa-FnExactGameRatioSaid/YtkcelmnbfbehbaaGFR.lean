/- Fractions made of numbers, on the machine. Conditions: numbers that are ints. -/
import Derived.Test.YtkcelmnbfbehbaaME
import Derived.Test.YtkcelmnbfbehbaaOB
import Derived.Test.YtkcelmnbfbehbaaGCT
set_option linter.all false
set_option linter.unusedSimpArgs false
set_option linter.unusedVariables false
namespace Go.Proofs.Ytkcelmnbfbehbaa
open Go Go.RowKit Am

/-- a function known by its calls, whose value is r wherever -/
theorem does_imm {P:Program} {f:Nat} {args:List AV} {v:Value} {r:AV} (hent:∀ (av:Array Value) (W:World),(callFunc f av).run P W = .ok (.enter f av) W) (hr:∀ M:Am.Mem,r.rel noφ M v)
    (h:∀ (M:Am.Mem) (w:World) (us:List Value),Mem.in_ M w→ArgsRel M args us→Calls P f us.toArray w fun e w'=>e = .returned v∧Below w.heap.size w w'):Does P f args (.imm r):=by
  refine ⟨hent,fun M w us hm ha=>(h M w us hm ha).mono fun e w' ⟨h1,h2⟩=>⟨v,M,h1,Am.Mem.le_refl _,fun ad u hu=>⟨?_,.inl hu⟩,hr M,h2⟩⟩
  have h3:=hm ad u hu
  exact (h2.cell (block_lt h3)).trans h3
abbrev frT (a:Int×Int):TV := .agg [.b (.val (.int .i64 a.1)),.b (.val (.int .i64 a.2))]
abbrev blT (b:Bool):TV := .one (.b (.val (.bool b)))
theorem frb_rel {M:Am.Mem} (a:Int×Int) (b:Bool):(AV.tup [frT a,blT b]).rel noφ M (.tuple #[frV a,.bool b]) :=
  ⟨[frV a,.bool b],rfl,rfl,fun j hj hj'=>by
    match j with
    | 0=>exact two_ls (M:=M) (φ:=noφ) rfl rfl
    | 1=>exact rfl
    | j+2=>exact absurd hj (by simp)⟩
theorem makeFrac_d (n d:Int) (hd:1≤d) (hd2:d≤9223372036854775807) (h1 : -9223372036854775807≤n) (h2:n≤9223372036854775807):Does Try.prog 53 [.int n,.int d] (.imm (.tup [frT (mkFr n d),blT (mkOk n d)])) :=
  does_imm (v := .tuple #[frV (mkFr n d),.bool (mkOk n d)]) (fun _ _=>by kernel_rfl) (fun M=>frb_rel _ _) fun M w us hm ha=>by
    obtain ⟨u,us',rfl,k1,k2⟩:=args_inv ha
    obtain ⟨u',us'',rfl,k3,k4⟩:=args_inv k2
    obtain rfl:=args_inv0 k4
    obtain rfl:u = .int .i64 n:=k1
    obtain rfl:u' = .int .i64 d:=k3
    exact makeFrac_any w n d hd hd2 h1 h2
theorem l2Make_d (n d:Int) (hd:1≤d) (hd2:d≤9223372036854775807) (h1 : -9223372036854775807≤n) (h2:n≤9223372036854775807):Does Try.prog 101 [.int n,.int d] (.imm (.tup [frT (mkFr n d),blT (mkOk n d)])) :=
  does_imm (v := .tuple #[frV (mkFr n d),.bool (mkOk n d)]) (fun _ _=>by kernel_rfl) (fun M=>frb_rel _ _) fun M w us hm ha=>by
    obtain ⟨u,us',rfl,k1,k2⟩:=args_inv ha
    obtain ⟨u',us'',rfl,k3,k4⟩:=args_inv k2
    obtain rfl:=args_inv0 k4
    obtain rfl:u = .int .i64 n:=k1
    obtain rfl:u' = .int .i64 d:=k3
    exact l2Make_any w n d hd hd2 h1 h2
end Go.Proofs.Ytkcelmnbfbehbaa
/- Fractions and powers, on the machine. Conditions: numbers that are small. -/
set_option linter.all false
set_option linter.unusedSimpArgs false
set_option linter.unusedVariables false
namespace Go.Proofs.Ytkcelmnbfbehbaa
open Go Go.RowKit Am

end Go.Proofs.Ytkcelmnbfbehbaa
