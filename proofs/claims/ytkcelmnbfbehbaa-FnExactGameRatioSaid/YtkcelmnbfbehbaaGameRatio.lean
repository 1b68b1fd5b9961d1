/- For every problem and state, 'GameRatio' of the program and of the reference give the same, no argument is turned, and the law returns true. Conditions: none. -/
import Derived.Test.YtkcelmnbfbehbaaRows
import Derived.Test.YtkcelmnbfbehbaaRG4
import Derived.Test.YtkcelmnbfbehbaaFacts
import Derived.Test.YtkcelmnbfbehbaaOpen
set_option linter.all false
set_option linter.unusedSimpArgs false
set_option linter.unusedVariables false
namespace Go.Proofs.Ytkcelmnbfbehbaa.fnExactGameRatio
open Go.ChangeShapes Go.WideShapes Go.ChangeAt Go.RowKit Go.Proofs.Ytkcelmnbfbehbaa.Am

theorem law_d (x0a:List (List Int)) (x0b:List (List Int)) (x1:Int):Does Try.prog 4 [prA x0a x0b,.int x1] (.imm (.bool true)):=by
  refine spec_imm Try.func4 rfl Try.ntmps4 cfOK (fun _ _=>by kernel_rfl) rfl (Nat.le_of_ble_eq_true rfl) ?_
  intro M0 w0
  rw [Try.results4]
  refine amGo ?_
  ((try refine Or.inl ?_);refine ⟨_,(szProblem_d x0a x0b _ (by omega) (by omega)),.inl rfl,?_⟩;refine amC ?_)
  refine amGo ?_
  refine awp_cond amQ (fun hc0 => ?_) (fun hc0 => ?_)
  · refine amGo ?_
    (simp only [xe,simprocAttr];refine ⟨_,rfl,rfl,Imp.eq ?_⟩)
    rfl
  have hc0:=Int.not_lt.1 (of_decide_eq_false hc0)
  have hl0:(szS2 szII szII x0a x0b 1048576)≤1048576:=Int.le_trans (szS2_le (fun x {_} h=>szII_le x h) (fun x {_} h=>szII_le x h) x0a x0b (by omega)) (by omega)
  have hk0:=szS2_ok hc0
  have ha0:=szII_sm (by omega) hk0.1
  have hb0:=szII_sm (Int.le_trans (szII_le x0a (by omega)) (by omega)) hk0.2
  first | (refine amB ?_;refine awp_anyM [] 0 [] (by kernel_rfl) (by kernel_rfl) (by kernel_rfl) (by kernel_rfl) (by kernel_rfl) ?_;refine amM ?_) | refine amGo ?_
  ((try refine Or.inl ?_);refine ⟨_,(toProblem_d x0a x0b ha0 hb0),amF,?_⟩;refine amC ?_)
  ((try refine Or.inl ?_);refine ⟨_,(spec_GameRatio_d x0a x0b x1),.inl rfl,?_⟩;refine amC ?_)
  refine amGo ?_
  ((try refine Or.inl ?_);refine ⟨_,(toProblem_d x0a x0b ha0 hb0),amF,?_⟩;refine amC ?_)
  refine amGo ?_
  ((try refine Or.inl ?_);refine ⟨_,(impl_GameRatio_d x0a x0b x1),.inl rfl,?_⟩;refine amC ?_)
  refine amGo ?_
  ((try refine Or.inl ?_);refine ⟨_,(eqFrac_d _ _),.inl rfl,?_⟩;refine amC ?_)
  refine amGo ?_
  refine awp_cond amQ (fun he => ?_) (fun he => ?_)
  · simp at he
  clear he
  refine amGo ?_
  ((try refine Or.inl ?_);refine ⟨_,(toProblem_d x0a x0b ha0 hb0),amF,?_⟩;refine amC ?_)
  ((try refine Or.inl ?_);refine ⟨_,(eqProblem_d x0a x0a x0b x0b),.inl rfl,?_⟩;refine amC ?_)
  refine amGo ?_
  refine awp_cond amQ (fun he => ?_) (fun he => ?_)
  · simp at he
  clear he
  refine amGo ?_
  (simp only [xe,simprocAttr];refine ⟨_,rfl,rfl,Imp.eq ?_⟩)
  rfl
theorem own:ownKnob Try.prog.godebug=none:=by kernel_rfl
theorem cells1:Try.prog.cellsOf 3=1∧Try.prog.cellsOf 28=1:=⟨by kernel_rfl,by kernel_rfl⟩
theorem openS {H:Type} {enc:TypeId×Value→H} {w:World} {base:Nat} {held:Bool} {fuel:Nat} {cs:List Value} {y:DataW H×List MemPlace} (h:DataW.trod enc Try.prog w base (fun _=>true) held fuel 28 cs=some y):∃ v xs,cs=[v]∧SlI w v xs:=by
  obtain ⟨v,xs,h1,h2,-⟩:=openI Try.underlying28 Try.underlying3 cells1.1 h
  exact ⟨v,xs,h1,h2⟩
theorem openSS {H:Type} {enc:TypeId×Value→H} {w:World} {base:Nat} {held:Bool} {fuel:Nat} {cs:List Value} {y:DataW H×List MemPlace} (h:DataW.trod enc Try.prog w base (fun _=>true) held fuel 22 cs=some y):∃ v xs,cs=[v]∧SlO SlI w v xs:=by
  obtain ⟨v,xs,h1,h2,-⟩:=openO (R:=SlI) (Q:=fun _=>True) Try.underlying22 (by kernel_rfl) (fun _ _ _ h=>by obtain ⟨v,x,h1,h2⟩:=openS h;exact ⟨v,x,h1,h2,trivial⟩) h
  exact ⟨v,xs,h1,h2⟩
theorem two {cs:Array Value} {u1 u2:Value} (h:cs.size=2) (h1:((cs.toList).drop 0).take 1=[u1]) (h2:((cs.toList).drop 1).take 1=[u2]):cs=#[u1,u2]:=by
  obtain ⟨l⟩:=cs
  match l,h with
  | [a,b],_ =>
    simp at h1 h2
    rw [h1,h2]
set_option maxRecDepth 100000 in
theorem lifted (os:Os) (started:os.Started) (H:Type) (enc:TypeId×Value→H) :
    ReturnsInHanded {} Try.checked os 4 .any (Rows.fnExactGameRatioSpec.pre6 enc Try.prog Try.f4 Rows.fnExactGameRatioRow.domain false) (Rows.fnExactGameRatioSpec.post enc Try.prog Try.f4 false true false false):=by
  refine returnsInHanded_of_change (C:=Try.checked) own started (by kernel_rfl) Try.func4
    (ChangeSpec.witness6 (enc:=enc) (C:=Try.checked) false ⟨#[],#[.agg #[.slice none 0 0,.slice none 0 0],.int .i64 0],[]⟩ 8 (by kernel_rfl) (by kernel_rfl) (by kernel_rfl) (by kernel_rfl)) ?_
  intro W base args ds gs before hval0 hW hcnd _
  have hval:∀ (j:Nat) t v,Try.f4.params[j]? = some t→args[j]? = some v→Value.okWide Try.prog W .any base t v:=hval0
  have hW':=hW
  obtain ⟨p,q,hA0,hV,rfl,hfz,hnd⟩:=hW
  have hA:DataW.TrodAll enc Try.prog W 0 (fun _=>true) true Try.f4.params.toList args.toList ds p:=hA0
  rw [Try.params4] at hA hval
  obtain ⟨v0,vs0,d0,ds0,p0,q0,hargs,rfl,rfl,⟨f0,h0⟩,r0⟩:=trodAll_cons hA
  obtain ⟨v1,vs1,d1,ds1,p1,q1,rfl,rfl,rfl,h1,r1⟩:=trodAll_cons r0
  obtain ⟨rfl,rfl,rfl⟩:=trodAll_nil r1
  obtain rfl:args=#[v0,v1]:=by cases args;simp_all
  obtain ⟨rfl,rfl⟩:=trodVars_none hV
  obtain ⟨cs0,rfl,z0⟩:=okWide_struct Try.underlying24 (hval 0 24 v0 rfl rfl)
  obtain ⟨y0a,y0b,k0,_,_,k0a,k0b⟩:=trod_struct2 Try.underlying24 h0
  obtain ⟨u0a,x0a,e0a,g0a⟩:=openSS k0a
  obtain ⟨u0b,x0b,e0b,g0b⟩:=openSS k0b
  rw [show Try.prog.cellsOf 24=2 by kernel_rfl] at z0
  obtain rfl:=two z0 e0a e0b
  obtain ⟨n1,rfl,rfl,rfl,w1⟩:=open_int Try.underlying3 (hval 1 3 v1 rfl rfl) h1
  refine (calls_val (law_d x0a x0b n1) (args_cons (two_ls (sii_of_sl g0a) (sii_of_sl g0b)) (args_cons rfl args_nil))).mono fun e W' ⟨he,hg⟩=>⟨.bool true,he,?_⟩
  exact law_post laidF (by rw [Try.params4];intro t ht;simp at ht;rcases ht with rfl | rfl<;>exact ⟨by kernel_rfl,of_decide_eq_true (by kernel_rfl)⟩) rfl (by kernel_rfl) Try.underlying4 hW' rfl hg
theorem closed:joinedFacts Try.prog 4 Try.f4 Rows.fnExactGameRatioSpec Rows.fnExactGameRatioRow=true:=by
  unfold joinedFacts
  rw [mayF,liftF,makeF,laidF,mapsF]
  kernel_rfl
theorem over:Rows.fnExactGameRatioRow.holds Try.pinned (OpenSpec.ofChange Rows.fnExactGameRatioSpec) :=
  OpenClaim.holds_of_wide 4 Try.f4 rfl rfl rfl rfl rfl rfl rfl ⟨rfl,rfl,rfl,rfl,rfl⟩ rfl rfl rfl rfl rfl (by kernel_rfl) Try.func4 closed
    (of_decide_eq_true (by kernel_rfl)) (by unfold Func.isWrapper;first | (rw [if_pos (by decide +kernel)];kernel_rfl) | (rw [if_neg (by decide +kernel)];exact ⟨rfl,rfl⟩))
    (fun os started H enc _=>lifted os started H enc)
/-- THE STATEMENT -/
theorem proved:Rows.FnExactGameRatioSaid:=over
end Go.Proofs.Ytkcelmnbfbehbaa.fnExactGameRatio
