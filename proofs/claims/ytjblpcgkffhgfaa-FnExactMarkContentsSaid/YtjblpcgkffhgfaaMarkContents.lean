/- For every number of items, size and sequence, 'MarkContents' of the program and of the reference give the same, no argument is turned, what is handed back shares no memory, and the law returns true. Conditions: none. -/
import Derived.Test.YtjblpcgkffhgfaaRows
import Derived.Test.YtjblpcgkffhgfaaMgL
import Derived.Test.YtjblpcgkffhgfaaEqFr
import Derived.Test.YtjblpcgkffhgfaaGTX
import Derived.Test.YtjblpcgkffhgfaaMarkSz
import Derived.Test.YtjblpcgkffhgfaaFacts
import Derived.Test.YtjblpcgkffhgfaaOpen
set_option linter.all false
set_option linter.unusedSimpArgs false
set_option linter.unusedVariables false
namespace Go.Proofs.Ytjblpcgkffhgfaa.fnExactMarkContents
open Go.ChangeShapes Go.WideShapes Go.ChangeAt Go.RowKit Go.Proofs.Ytjblpcgkffhgfaa.Am

set_option maxHeartbeats 2000000 in
theorem law_bad (x0:Int) (x1:Int) (x2:List Int) (hb:szB x0 x1 x2=false):Does Try.prog 4 [.int x0,.int x1,.sl (.ints x2)] (.imm (.bool true)):=by
  refine spec_imm Try.func4 rfl Try.ntmps4 cfOK (fun _ _=>by kernel_rfl) rfl (Nat.le_of_ble_eq_true rfl) ?_
  intro M0 w0
  rw [Try.results4]
  refine amGo ?_
  refine awp_cond amQ (fun hr2 => ?_) (fun hr2 => ?_)
  · refine amGo ?_
    (simp only [xe,simprocAttr];refine ⟨_,rfl,rfl,Imp.eq ?_⟩)
    rfl
  have hr2:x2.length≤1048576:=by have hr2:=of_decide_eq_false hr2;omega
  refine amGo ?_
  ((try refine Or.inl ?_);refine ⟨_,(toI_d x2 hr2),amF,?_⟩;refine amC ?_)
  ((try refine Or.inl ?_);refine ⟨_,(spec_MarkContents_d x0 x1 x2),amF,?_⟩;refine amC ?_)
  rw [hb]
  refine amGo ?_
  (refine .inr (.inl (callW_b (toI_h x2 hr2) rfl rfl rfl rfl rfl rfl rfl ?_));refine amC ?_)
  refine amGo ?_
  ((try refine Or.inl ?_);refine ⟨_,(impl_MarkContents_0 x0 x1 x2 hb),.inl rfl,?_⟩;refine amC ?_)
  refine amGo ?_
  ((try refine Or.inl ?_);refine ⟨_,(eqII_n []),.inl rfl,?_⟩;refine amC ?_)
  refine amGo ?_
  first | (((try refine Or.inl ?_);refine ⟨_,(fun _=>eqFracS_n),.inl rfl,?_⟩;refine amC ?_)) | (((try refine Or.inl ?_);refine ⟨_,(eqFracS_n),.inl rfl,?_⟩;refine amC ?_))
  refine amGo ?_
  refine awp_cond amQ (fun he => ?_) (fun he => ?_)
  · simp at he
  clear he
  refine amGo ?_
  ((try refine Or.inl ?_);refine ⟨_,(toI_d x2 hr2),amF,?_⟩;refine amC ?_)
  ((try refine Or.inl ?_);refine ⟨_,(eqI_d x2 x2),.inl rfl,?_⟩;refine amC ?_)
  refine amGo ?_
  refine awp_cond amQ (fun he => ?_) (fun he => ?_)
  · simp at he
  clear he
  refine amGo ?_
  (refine .inr (.inl (callW_a [0] (markI_h (1) x2 ⟨by omega,by omega⟩ hr2) rfl rfl rfl rfl ⟨rfl,trivial⟩ rfl rfl rfl rfl ?_));refine amC ?_)
  refine amGo ?_
  first | (((try refine Or.inl ?_);refine ⟨_,(fun _=>eqII_n []),.inl rfl,?_⟩;refine amC ?_)) | (((try refine Or.inl ?_);refine ⟨_,(eqII_n []),.inl rfl,?_⟩;refine amC ?_))
  refine amGo ?_
  first | (((try refine Or.inl ?_);refine ⟨_,(fun _=>eqFracS_n),.inl rfl,?_⟩;refine amC ?_)) | (((try refine Or.inl ?_);refine ⟨_,(eqFracS_n),.inl rfl,?_⟩;refine amC ?_))
  refine amGo ?_
  refine awp_cond amQ (fun he => ?_) (fun he => ?_)
  · simp at he<;>omega
  clear he
  refine amGo ?_
  ((try refine Or.inl ?_);refine ⟨_,(markII_n (1)),.inl rfl,?_⟩;refine amC ?_)
  refine amGo ?_
  ((try refine Or.inl ?_);refine ⟨_,(markF_n (1)),.inl rfl,?_⟩;refine amC ?_)
  refine amGo ?_
  ((try refine Or.inl ?_);refine ⟨_,(heldII_n (1)),.inl rfl,?_⟩;refine amC ?_)
  refine amGo ?_
  refine awp_cond amQ (fun he => ?_) (fun he => ?_)
  · simp at he<;>omega
  clear he
  refine amGo ?_
  ((try refine Or.inl ?_);refine ⟨_,(heldF_n (1)),.inl rfl,?_⟩;refine amC ?_)
  refine amGo ?_
  refine awp_cond amQ (fun he => ?_) (fun he => ?_)
  · simp at he<;>omega
  clear he
  refine amGo ?_
  refine awp_cond amQ (fun he => ?_) (fun he => ?_)
  · simp at he
  clear he
  refine amGo ?_
  ((try refine Or.inl ?_);refine ⟨_,(toI_d x2 hr2),amF,?_⟩;refine amC ?_)
  ((try refine Or.inl ?_);refine ⟨_,(impl_MarkContents_0 x0 x1 x2 hb),.inl rfl,?_⟩;refine amC ?_)
  refine amGo ?_
  ((try refine Or.inl ?_);refine ⟨_,(eqII_n []),.inl rfl,?_⟩;refine amC ?_)
  refine amGo ?_
  first | (((try refine Or.inl ?_);refine ⟨_,(fun _=>eqFracS_n),.inl rfl,?_⟩;refine amC ?_)) | (((try refine Or.inl ?_);refine ⟨_,(eqFracS_n),.inl rfl,?_⟩;refine amC ?_))
  refine amGo ?_
  refine awp_cond amQ (fun he => ?_) (fun he => ?_)
  · simp at he
  clear he
  refine amGo ?_
  ((try refine Or.inl ?_);refine ⟨_,(heldII_n (1)),.inl rfl,?_⟩;refine amC ?_)
  refine amGo ?_
  refine awp_cond amQ (fun he => ?_) (fun he => ?_)
  · simp at he<;>omega
  clear he
  refine amGo ?_
  ((try refine Or.inl ?_);refine ⟨_,(heldF_n (1)),.inl rfl,?_⟩;refine amC ?_)
  refine amGo ?_
  refine awp_cond amQ (fun he => ?_) (fun he => ?_)
  · simp at he<;>omega
  clear he
  refine amGo ?_
  refine awp_cond amQ (fun he => ?_) (fun he => ?_)
  · simp at he
  clear he
  refine amGo ?_
  (simp only [xe,simprocAttr];refine ⟨_,rfl,rfl,Imp.eq ?_⟩)
  rfl
set_option maxHeartbeats 2000000 in
theorem law_good (x0:Int) (x1:Int) (x2:List Int) (hb:szB x0 x1 x2=true):Does Try.prog 4 [.int x0,.int x1,.sl (.ints x2)] (.imm (.bool true)):=by
  refine spec_imm Try.func4 rfl Try.ntmps4 cfOK (fun _ _=>by kernel_rfl) rfl (Nat.le_of_ble_eq_true rfl) ?_
  intro M0 w0
  rw [Try.results4]
  refine amGo ?_
  refine awp_cond amQ (fun hr2 => ?_) (fun hr2 => ?_)
  · refine amGo ?_
    (simp only [xe,simprocAttr];refine ⟨_,rfl,rfl,Imp.eq ?_⟩)
    rfl
  have hr2:x2.length≤1048576:=by have hr2:=of_decide_eq_false hr2;omega
  have hz:=mcK_sm hb
  have hz2:=mcK_n hb
  have hzo:=mcO_ok hb
  refine amGo ?_
  ((try refine Or.inl ?_);refine ⟨_,(toI_d x2 hr2),amF,?_⟩;refine amC ?_)
  ((try refine Or.inl ?_);refine ⟨_,(spec_MarkContents_d x0 x1 x2),amF,?_⟩;refine amC ?_)
  rw [hb]
  refine amGo ?_
  (refine .inr (.inl (callW_b (toI_h x2 hr2) rfl rfl rfl rfl rfl rfl rfl ?_));refine amC ?_)
  refine amGo ?_
  (refine .inr (.inl (callW_b (impl_MarkContents_g x0 x1 x2 hb) rfl rfl rfl rfl rfl rfl rfl ?_));refine amC ?_)
  refine amGo ?_
  ((try refine Or.inl ?_);refine ⟨_,(eqII_d (mcK x0 x1 x2) (mcK x0 x1 x2)),.inl rfl,?_⟩;refine amC ?_)
  refine amGo ?_
  first | (((try refine Or.inl ?_);refine ⟨_,(fun _=>eqFracS_d (mcO x0 x1 x2) (mcO x0 x1 x2) hzo.2 hzo.2),.inl rfl,?_⟩;refine amC ?_)) | (((try refine Or.inl ?_);refine ⟨_,(eqFracS_d (mcO x0 x1 x2) (mcO x0 x1 x2) hzo.2 hzo.2),.inl rfl,?_⟩;refine amC ?_))
  refine amGo ?_
  refine awp_cond amQ (fun he => ?_) (fun he => ?_)
  · simp at he
  clear he
  refine amGo ?_
  ((try refine Or.inl ?_);refine ⟨_,(toI_d x2 hr2),amF,?_⟩;refine amC ?_)
  ((try refine Or.inl ?_);refine ⟨_,(eqI_d x2 x2),.inl rfl,?_⟩;refine amC ?_)
  refine amGo ?_
  refine awp_cond amQ (fun he => ?_) (fun he => ?_)
  · simp at he
  clear he
  refine amGo ?_
  (refine .inr (.inl (callW_a [0] (markI_h (1) x2 ⟨by omega,by omega⟩ hr2) rfl rfl rfl rfl ⟨rfl,trivial⟩ rfl rfl rfl rfl ?_));refine amC ?_)
  refine amGo ?_
  first | (((try refine Or.inl ?_);refine ⟨_,(fun _=>eqII_d (mcK x0 x1 x2) (mcK x0 x1 x2)),.inl rfl,?_⟩;refine amC ?_)) | (((try refine Or.inl ?_);refine ⟨_,(eqII_d (mcK x0 x1 x2) (mcK x0 x1 x2)),.inl rfl,?_⟩;refine amC ?_))
  refine amGo ?_
  first | (((try refine Or.inl ?_);refine ⟨_,(fun _=>eqFracS_d (mcO x0 x1 x2) (mcO x0 x1 x2) hzo.2 hzo.2),.inl rfl,?_⟩;refine amC ?_)) | (((try refine Or.inl ?_);refine ⟨_,(eqFracS_d (mcO x0 x1 x2) (mcO x0 x1 x2) hzo.2 hzo.2),.inl rfl,?_⟩;refine amC ?_))
  refine amGo ?_
  refine awp_cond amQ (fun he => ?_) (fun he => ?_)
  · simp at he<;>omega
  clear he
  refine amGo ?_
  (refine .inr (.inl (callW_a [1] (markII_h (1) (mcK x0 x1 x2) ⟨by omega,by omega⟩ hz.1 hz.2) rfl rfl rfl rfl ⟨rfl,trivial⟩ rfl rfl rfl rfl ?_));refine amC ?_)
  refine amGo ?_
  (refine .inr (.inl (callW_a [2] (markF_h (1+nII (mcK x0 x1 x2)) (mcO x0 x1 x2) ⟨by omega,by omega⟩ (by omega) hzo.2) rfl rfl rfl rfl ⟨rfl,trivial⟩ rfl rfl rfl rfl ?_));refine amC ?_)
  refine amGo ?_
  ((try refine Or.inl ?_);refine ⟨_,(heldII_d (1) (mcK x0 x1 x2) ⟨by omega,by omega⟩ hz.1 hz.2),.inl rfl,?_⟩;refine amC ?_)
  refine amGo ?_
  refine awp_cond amQ (fun he => ?_) (fun he => ?_)
  · simp at he<;>omega
  clear he
  refine amGo ?_
  ((try refine Or.inl ?_);refine ⟨_,(heldF_d (1+nII (mcK x0 x1 x2)) (mcO x0 x1 x2) ⟨by omega,by omega⟩ (by omega)),.inl rfl,?_⟩;refine amC ?_)
  refine amGo ?_
  refine awp_cond amQ (fun he => ?_) (fun he => ?_)
  · simp at he<;>omega
  clear he
  refine amGo ?_
  refine awp_cond amQ (fun he => ?_) (fun he => ?_)
  · simp at he
  clear he
  refine amGo ?_
  ((try refine Or.inl ?_);refine ⟨_,(toI_d x2 hr2),amF,?_⟩;refine amC ?_)
  (refine .inr (.inl (callW_b (impl_MarkContents_g x0 x1 x2 hb) rfl rfl rfl rfl rfl rfl rfl ?_));refine amC ?_)
  refine amGo ?_
  ((try refine Or.inl ?_);refine ⟨_,(eqII_d (mcK x0 x1 x2) (mcK x0 x1 x2)),.inl rfl,?_⟩;refine amC ?_)
  refine amGo ?_
  first | (((try refine Or.inl ?_);refine ⟨_,(fun _=>eqFracS_d (mcO x0 x1 x2) (mcO x0 x1 x2) hzo.2 hzo.2),.inl rfl,?_⟩;refine amC ?_)) | (((try refine Or.inl ?_);refine ⟨_,(eqFracS_d (mcO x0 x1 x2) (mcO x0 x1 x2) hzo.2 hzo.2),.inl rfl,?_⟩;refine amC ?_))
  refine amGo ?_
  refine awp_cond amQ (fun he => ?_) (fun he => ?_)
  · simp at he
  clear he
  refine amGo ?_
  ((try refine Or.inl ?_);refine ⟨_,(heldII_d (1) (mcK x0 x1 x2) ⟨by omega,by omega⟩ hz.1 hz.2),.inl rfl,?_⟩;refine amC ?_)
  refine amGo ?_
  refine awp_cond amQ (fun he => ?_) (fun he => ?_)
  · simp at he<;>omega
  clear he
  refine amGo ?_
  ((try refine Or.inl ?_);refine ⟨_,(heldF_d (1+nII (mcK x0 x1 x2)) (mcO x0 x1 x2) ⟨by omega,by omega⟩ (by omega)),.inl rfl,?_⟩;refine amC ?_)
  refine amGo ?_
  refine awp_cond amQ (fun he => ?_) (fun he => ?_)
  · simp at he<;>omega
  clear he
  refine amGo ?_
  refine awp_cond amQ (fun he => ?_) (fun he => ?_)
  · simp at he
  clear he
  refine amGo ?_
  (simp only [xe,simprocAttr];refine ⟨_,rfl,rfl,Imp.eq ?_⟩)
  rfl
theorem law_d (x0:Int) (x1:Int) (x2:List Int):Does Try.prog 4 [.int x0,.int x1,.sl (.ints x2)] (.imm (.bool true)):=by
  cases hb:szB x0 x1 x2
  · exact law_bad x0 x1 x2 hb
  · exact law_good x0 x1 x2 hb
theorem own:ownKnob Try.prog.godebug=none:=by kernel_rfl
theorem cells1:Try.prog.cellsOf 3=1∧Try.prog.cellsOf 22=1:=⟨by kernel_rfl,by kernel_rfl⟩
theorem openS {H:Type} {enc:TypeId×Value→H} {w:World} {base:Nat} {held:Bool} {fuel:Nat} {cs:List Value} {y:DataW H×List MemPlace} (h:DataW.trod enc Try.prog w base (fun _=>true) held fuel 22 cs=some y):∃ v xs,cs=[v]∧SlI w v xs:=by
  obtain ⟨v,xs,h1,h2,-⟩:=openI Try.underlying22 Try.underlying3 cells1.1 h
  exact ⟨v,xs,h1,h2⟩
theorem two {cs:Array Value} {u1 u2:Value} (h:cs.size=2) (h1:((cs.toList).drop 0).take 1=[u1]) (h2:((cs.toList).drop 1).take 1=[u2]):cs=#[u1,u2]:=by
  obtain ⟨l⟩:=cs
  match l,h with
  | [a,b],_ =>
    simp at h1 h2
    rw [h1,h2]
set_option maxRecDepth 100000 in
theorem lifted (os:Os) (started:os.Started) (H:Type) (enc:TypeId×Value→H) :
    ReturnsInHanded {} Try.checked os 4 .any (Rows.fnExactMarkContentsSpec.pre6 enc Try.prog Try.f4 Rows.fnExactMarkContentsRow.domain false) (Rows.fnExactMarkContentsSpec.post enc Try.prog Try.f4 false true false false):=by
  refine returnsInHanded_of_change (C:=Try.checked) own started (by kernel_rfl) Try.func4
    (ChangeSpec.witness6 (enc:=enc) (C:=Try.checked) false ⟨#[],#[.int .i64 0,.int .i64 0,.slice none 0 0],[]⟩ 8 (by kernel_rfl) (by kernel_rfl) (by kernel_rfl) (by kernel_rfl)) ?_
  intro W base args ds gs before hval0 hW hcnd _
  have hval:∀ (j:Nat) t v,Try.f4.params[j]? = some t→args[j]? = some v→Value.okWide Try.prog W .any base t v:=hval0
  have hW':=hW
  obtain ⟨p,q,hA0,hV,rfl,hfz,hnd⟩:=hW
  have hA:DataW.TrodAll enc Try.prog W 0 (fun _=>true) true Try.f4.params.toList args.toList ds p:=hA0
  rw [Try.params4] at hA hval
  obtain ⟨v0,vs0,d0,ds0,p0,q0,hargs,rfl,rfl,h0,r0⟩:=trodAll_cons hA
  obtain ⟨v1,vs1,d1,ds1,p1,q1,rfl,rfl,rfl,h1,r1⟩:=trodAll_cons r0
  obtain ⟨v2,vs2,d2,ds2,p2,q2,rfl,rfl,rfl,⟨f2,h2⟩,r2⟩:=trodAll_cons r1
  obtain ⟨rfl,rfl,rfl⟩:=trodAll_nil r2
  obtain rfl:args=#[v0,v1,v2]:=by cases args;simp_all
  obtain ⟨rfl,rfl⟩:=trodVars_none hV
  obtain ⟨n0,rfl,rfl,rfl,w0⟩:=open_int Try.underlying3 (hval 0 3 v0 rfl rfl) h0
  obtain ⟨n1,rfl,rfl,rfl,w1⟩:=open_int Try.underlying3 (hval 1 3 v1 rfl rfl) h1
  obtain ⟨u2,x2,e2,g2⟩:=openS h2
  obtain ⟨A2,l2,c2,rfl⟩:=okWide_slice Try.underlying22 (hval 2 22 v2 rfl rfl)
  simp only [Value.cells,List.cons.injEq,and_true] at e2
  subst e2
  refine (calls_val (law_d n0 n1 x2) (args_cons rfl (args_cons rfl (args_cons (si_of_sl g2) args_nil)))).mono fun e W' ⟨he,hg⟩=>⟨.bool true,he,?_⟩
  exact law_post laidF (by rw [Try.params4];intro t ht;simp at ht;rcases ht with rfl | rfl | rfl<;>exact ⟨by kernel_rfl,of_decide_eq_true (by kernel_rfl)⟩) rfl (by kernel_rfl) Try.underlying4 hW' rfl hg
theorem closed:joinedFacts Try.prog 4 Try.f4 Rows.fnExactMarkContentsSpec Rows.fnExactMarkContentsRow=true:=by
  unfold joinedFacts
  rw [mayF,liftF,makeF,laidF,mapsF]
  kernel_rfl
theorem over:Rows.fnExactMarkContentsRow.holds Try.pinned (OpenSpec.ofChange Rows.fnExactMarkContentsSpec) :=
  OpenClaim.holds_of_wide 4 Try.f4 rfl rfl rfl rfl rfl rfl rfl ⟨rfl,rfl,rfl,rfl,rfl⟩ rfl rfl rfl rfl rfl (by kernel_rfl) Try.func4 closed
    (of_decide_eq_true (by kernel_rfl)) (by unfold Func.isWrapper;first | (rw [if_pos (by decide +kernel)];kernel_rfl) | (rw [if_neg (by decide +kernel)];exact ⟨rfl,rfl⟩))
    (fun os started H enc _=>lifted os started H enc)
/-- THE STATEMENT -/
theorem proved:Rows.FnExactMarkContentsSaid:=over
end Go.Proofs.Ytjblpcgkffhgfaa.fnExactMarkContents
