/- For every number of items, size and sequence, 'MarkFaults' of the program and of the reference give the same, no argument is turned, and the law returns true. Conditions: none. -/
import Derived.Test.YtjblpcgkffhgfaaRows
import Derived.Test.YtjblpcgkffhgfaaMgL
import Derived.Test.YtjblpcgkffhgfaaGCT
import Derived.Test.YtjblpcgkffhgfaaFacts
import Derived.Test.YtjblpcgkffhgfaaOpen
set_option linter.all false
set_option linter.unusedSimpArgs false
set_option linter.unusedVariables false
namespace Go.Proofs.Ytjblpcgkffhgfaa.fnExactMarkFaults
open Go.ChangeShapes Go.WideShapes Go.ChangeAt Go.RowKit Go.Proofs.Ytjblpcgkffhgfaa.Am

theorem law_d (x0:Int) (x1:Int) (x2:List Int):Does Try.prog 3 [.int x0,.int x1,.sl (.ints x2)] (.imm (.bool true)):=by
  refine spec_imm Try.func3 rfl Try.ntmps3 cfOK (fun _ _=>by kernel_rfl) rfl (Nat.le_of_ble_eq_true rfl) ?_
  intro M0 w0
  rw [Try.results3]
  refine amGo ?_
  refine awp_cond amQ (fun hr2 => ?_) (fun hr2 => ?_)
  · refine amGo ?_
    (simp only [xe,simprocAttr];refine ⟨_,rfl,rfl,Imp.eq ?_⟩)
    rfl
  have hr2:x2.length≤1048576:=by have hr2:=of_decide_eq_false hr2;omega
  first | (refine amB ?_;refine awp_anyM [] 0 [] (by kernel_rfl) (by kernel_rfl) (by kernel_rfl) (by kernel_rfl) (by kernel_rfl) ?_;refine amM ?_) | refine amGo ?_
  ((try refine Or.inl ?_);refine ⟨_,(toI_d x2 hr2),amF,?_⟩;refine amC ?_)
  ((try refine Or.inl ?_);refine ⟨_,(spec_MarkFaults_d x0 x1 x2),.inl rfl,?_⟩;refine amC ?_)
  refine amGo ?_
  ((try refine Or.inl ?_);refine ⟨_,(toI_d x2 hr2),amF,?_⟩;refine amC ?_)
  refine amGo ?_
  ((try refine Or.inl ?_);refine ⟨_,(impl_MarkFaults_v x0 x1 x2),.inl rfl,?_⟩;refine amC ?_)
  refine amGo ?_
  ((try refine Or.inl ?_);refine ⟨_,(eqFrac_d _ _),.inl rfl,?_⟩;refine amC ?_)
  refine amGo ?_
  refine awp_cond amQ (fun he => ?_) (fun he => ?_)
  · simp at he
  clear he
  refine amGo ?_
  ((try refine Or.inl ?_);refine ⟨_,(toI_d x2 hr2),amF,?_⟩;refine amC ?_)
  ((try refine Or.inl ?_);refine ⟨_,(eqI_d x2 x2),.inl rfl,?_⟩;refine amC ?_)
  refine amGo ?_
  refine awp_cond amQ (fun he => ?_) (fun he => ?_)
  · simp at he
  clear he
  refine amGo ?_
  (simp only [xe,simprocAttr];refine ⟨_,rfl,rfl,Imp.eq ?_⟩)
  rfl
theorem own:ownKnob Try.prog.godebug=none:=by kernel_rfl
theorem cells1:Try.prog.cellsOf 3=1∧Try.prog.cellsOf 22=1:=⟨by kernel_rfl,by kernel_rfl⟩
theorem openS {H:Type} {enc:TypeId×Value→H} {w:World} {base:Nat} {held:Bool} {fuel:Nat} {cs:List Value} {y:DataW H×List MemPlace} (h:DataW.trod enc Try.prog w base (fun _=>true) held fuel 22 cs=some y):∃ v xs,cs=[v]∧SlI w v xs:=by
  obtain ⟨v,xs,h1,h2,-⟩:=openI Try.underlying22 Try.underlying3 cells1.1 h
  exact ⟨v,xs,h1,h2⟩
theorem two {cs:Array Value} {u1 u2:Value} (h:cs.size=2) (h1:((cs.toList).drop 0).take 1=[u1]) (h2:((cs.toList).drop 1).take 1=[u2]):cs=#[u1,u2]:=by
  obtain ⟨l⟩:=cs
  match l,h with
  | [a,b],_ =>
    simp at h1 h2
    rw [h1,h2]
set_option maxRecDepth 100000 in
theorem lifted (os:Os) (started:os.Started) (H:Type) (enc:TypeId×Value→H) :
    ReturnsInHanded {} Try.checked os 3 .any (Rows.fnExactMarkFaultsSpec.pre6 enc Try.prog Try.f3 Rows.fnExactMarkFaultsRow.domain false) (Rows.fnExactMarkFaultsSpec.post enc Try.prog Try.f3 false true false false):=by
  refine returnsInHanded_of_change (C:=Try.checked) own started (by kernel_rfl) Try.func3
    (ChangeSpec.witness6 (enc:=enc) (C:=Try.checked) false ⟨#[],#[.int .i64 0,.int .i64 0,.slice none 0 0],[]⟩ 8 (by kernel_rfl) (by kernel_rfl) (by kernel_rfl) (by kernel_rfl)) ?_
  intro W base args ds gs before hval0 hW hcnd _
  have hval:∀ (j:Nat) t v,Try.f3.params[j]? = some t→args[j]? = some v→Value.okWide Try.prog W .any base t v:=hval0
  have hW':=hW
  obtain ⟨p,q,hA0,hV,rfl,hfz,hnd⟩:=hW
  have hA:DataW.TrodAll enc Try.prog W 0 (fun _=>true) true Try.f3.params.toList args.toList ds p:=hA0
  rw [Try.params3] at hA hval
  obtain ⟨v0,vs0,d0,ds0,p0,q0,hargs,rfl,rfl,h0,r0⟩:=trodAll_cons hA
  obtain ⟨v1,vs1,d1,ds1,p1,q1,rfl,rfl,rfl,h1,r1⟩:=trodAll_cons r0
  obtain ⟨v2,vs2,d2,ds2,p2,q2,rfl,rfl,rfl,⟨f2,h2⟩,r2⟩:=trodAll_cons r1
  obtain ⟨rfl,rfl,rfl⟩:=trodAll_nil r2
  obtain rfl:args=#[v0,v1,v2]:=by cases args;simp_all
  obtain ⟨rfl,rfl⟩:=trodVars_none hV
  obtain ⟨n0,rfl,rfl,rfl,w0⟩:=open_int Try.underlying3 (hval 0 3 v0 rfl rfl) h0
  obtain ⟨n1,rfl,rfl,rfl,w1⟩:=open_int Try.underlying3 (hval 1 3 v1 rfl rfl) h1
  obtain ⟨u2,x2,e2,g2⟩:=openS h2
  obtain ⟨A2,l2,c2,rfl⟩:=okWide_slice Try.underlying22 (hval 2 22 v2 rfl rfl)
  simp only [Value.cells,List.cons.injEq,and_true] at e2
  subst e2
  refine (calls_val (law_d n0 n1 x2) (args_cons rfl (args_cons rfl (args_cons (si_of_sl g2) args_nil)))).mono fun e W' ⟨he,hg⟩=>⟨.bool true,he,?_⟩
  exact law_post laidF (by rw [Try.params3];intro t ht;simp at ht;rcases ht with rfl | rfl | rfl<;>exact ⟨by kernel_rfl,of_decide_eq_true (by kernel_rfl)⟩) rfl (by kernel_rfl) Try.underlying4 hW' rfl hg
theorem closed:joinedFacts Try.prog 3 Try.f3 Rows.fnExactMarkFaultsSpec Rows.fnExactMarkFaultsRow=true:=by
  unfold joinedFacts
  rw [mayF,liftF,makeF,laidF,mapsF]
  kernel_rfl
theorem over:Rows.fnExactMarkFaultsRow.holds Try.pinned (OpenSpec.ofChange Rows.fnExactMarkFaultsSpec) :=
  OpenClaim.holds_of_wide 3 Try.f3 rfl rfl rfl rfl rfl rfl rfl ⟨rfl,rfl,rfl,rfl,rfl⟩ rfl rfl rfl rfl rfl (by kernel_rfl) Try.func3 closed
    (of_decide_eq_true (by kernel_rfl)) (by unfold Func.isWrapper;first | (rw [if_pos (by decide +kernel)];kernel_rfl) | (rw [if_neg (by decide +kernel)];exact ⟨rfl,rfl⟩))
    (fun os started H enc _=>lifted os started H enc)
/-- THE STATEMENT -/
theorem proved:Rows.FnExactMarkFaultsSaid:=over
end Go.Proofs.Ytjblpcgkffhgfaa.fnExactMarkFaults
