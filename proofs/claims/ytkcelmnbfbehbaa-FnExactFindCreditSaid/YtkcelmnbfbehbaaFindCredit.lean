/- For every problem, state and ratio, 'FindCredit' of the program and of the reference give the same, no argument is turned, what is handed back shares no memory, and the law returns true. Conditions: none. -/
import Derived.Test.YtkcelmnbfbehbaaRows
import Derived.Test.YtkcelmnbfbehbaaRA6
import Derived.Test.YtkcelmnbfbehbaaMarkSz
import Derived.Test.YtkcelmnbfbehbaaGAM
import Derived.Test.YtkcelmnbfbehbaaFacts
import Derived.Test.YtkcelmnbfbehbaaOpen
set_option linter.all false
set_option linter.unusedSimpArgs false
set_option linter.unusedVariables false
namespace Go.Proofs.Ytkcelmnbfbehbaa.fnExactFindCredit
open Go.ChangeShapes Go.WideShapes Go.ChangeAt Go.RowKit Go.Proofs.Ytkcelmnbfbehbaa.Am

set_option maxHeartbeats 2000000 in
theorem law_bad (x0a:List (List Int)) (x0b:List (List Int)) (x1:Int) (x2:Int×Int) (hb:fcB x0a x0b x1 x2=false):Does Try.prog 3 [prA x0a x0b,.int x1,frA x2] (.imm (.bool true)):=by
  refine spec_imm Try.func3 rfl Try.ntmps3 cfOK (fun _ _=>by kernel_rfl) rfl (Nat.le_of_ble_eq_true rfl) ?_
  intro M0 w0
  rw [Try.results3]
  refine amGo ?_
  ((try refine Or.inl ?_);refine ⟨_,(szProblem_d x0a x0b _ (by omega) (by omega)),.inl rfl,?_⟩;refine amC ?_)
  refine amGo ?_
  refine awp_cond amQ (fun hc0 => ?_) (fun hc0 => ?_)
  · refine amGo ?_
    (simp only [xe,simprocAttr];refine ⟨_,rfl,rfl,Imp.eq ?_⟩)
    rfl
  have hc0:=Int.not_lt.1 (of_decide_eq_false hc0)
  have hl0:(szS2 szII szII x0a x0b 1048576)≤1048576:=Int.le_trans (szS2_le (fun x {_} h=>szII_le x h) (fun x {_} h=>szII_le x h) x0a x0b (by omega)) (by omega)
  have hk0:=szS2_ok hc0
  have ha0:=szII_sm (by omega) hk0.1
  have hb0:=szII_sm (Int.le_trans (szII_le x0a (by omega)) (by omega)) hk0.2
  have hn0:=szS2_n (f:=szII) (g:=szII) (N:=nII) (N':=nII) (fun _ {_} h=>szII_n h) (fun _ {_} h=>szII_n h) hc0
  refine amGo ?_
  ((try refine Or.inl ?_);refine ⟨_,(toProblem_d x0a x0b ha0 hb0),amF,?_⟩;refine amC ?_)
  ((try refine Or.inl ?_);refine ⟨_,(toFrac_d x2),amF,?_⟩;refine amC ?_)
  ((try refine Or.inl ?_);refine ⟨_,(spec_FindCredit_d x0a x0b x1 x2),amF,?_⟩;refine amC ?_)
  rw [hb]
  refine amGo ?_
  (refine .inr (.inl (callW_b (toProblem_h x0a x0b ha0 hb0) rfl rfl rfl rfl rfl rfl rfl ?_));refine amC ?_)
  refine amGo ?_
  ((try refine Or.inl ?_);refine ⟨_,(toFrac_d x2),amF,?_⟩;refine amC ?_)
  ((try refine Or.inl ?_);refine ⟨_,(impl_FindCredit_0 x0a x0b x1 x2 hb),.inl rfl,?_⟩;refine amC ?_)
  refine amGo ?_
  ((try refine Or.inl ?_);refine ⟨_,(eqI_n []),.inl rfl,?_⟩;refine amC ?_)
  refine amGo ?_
  refine awp_cond amQ (fun he => ?_) (fun he => ?_)
  · simp at he
  clear he
  refine amGo ?_
  ((try refine Or.inl ?_);refine ⟨_,(toProblem_d x0a x0b ha0 hb0),amF,?_⟩;refine amC ?_)
  ((try refine Or.inl ?_);refine ⟨_,(eqProblem_d x0a x0a x0b x0b),.inl rfl,?_⟩;refine amC ?_)
  refine amGo ?_
  refine awp_cond amQ (fun he => ?_) (fun he => ?_)
  · simp at he
  clear he
  refine amGo ?_
  (refine .inr (.inl (callW_a [2,3] (markProblem_h (1) x0a x0b ⟨by omega,by omega⟩ ha0.1 ha0.2 hb0.1 hb0.2) rfl rfl rfl rfl ⟨rfl,rfl,trivial⟩ rfl rfl rfl rfl ?_));refine amC ?_)
  refine amGo ?_
  first | (((try refine Or.inl ?_);refine ⟨_,(fun _=>eqI_n []),.inl rfl,?_⟩;refine amC ?_)) | (((try refine Or.inl ?_);refine ⟨_,(eqI_n []),.inl rfl,?_⟩;refine amC ?_))
  refine amGo ?_
  refine awp_cond amQ (fun he => ?_) (fun he => ?_)
  · simp at he<;>omega
  clear he
  refine amGo ?_
  ((try refine Or.inl ?_);refine ⟨_,(markI_n (1)),.inl rfl,?_⟩;refine amC ?_)
  refine amGo ?_
  ((try refine Or.inl ?_);refine ⟨_,(heldI_n (1)),.inl rfl,?_⟩;refine amC ?_)
  refine amGo ?_
  refine awp_cond amQ (fun he => ?_) (fun he => ?_)
  · simp at he<;>omega
  clear he
  refine amGo ?_
  refine awp_cond amQ (fun he => ?_) (fun he => ?_)
  · simp at he
  clear he
  refine amGo ?_
  ((try refine Or.inl ?_);refine ⟨_,(toProblem_d x0a x0b ha0 hb0),amF,?_⟩;refine amC ?_)
  ((try refine Or.inl ?_);refine ⟨_,(toFrac_d x2),amF,?_⟩;refine amC ?_)
  ((try refine Or.inl ?_);refine ⟨_,(impl_FindCredit_0 x0a x0b x1 x2 hb),.inl rfl,?_⟩;refine amC ?_)
  refine amGo ?_
  ((try refine Or.inl ?_);refine ⟨_,(eqI_n []),.inl rfl,?_⟩;refine amC ?_)
  refine amGo ?_
  refine awp_cond amQ (fun he => ?_) (fun he => ?_)
  · simp at he
  clear he
  refine amGo ?_
  ((try refine Or.inl ?_);refine ⟨_,(heldI_n (1)),.inl rfl,?_⟩;refine amC ?_)
  refine amGo ?_
  refine awp_cond amQ (fun he => ?_) (fun he => ?_)
  · simp at he<;>omega
  clear he
  refine amGo ?_
  refine awp_cond amQ (fun he => ?_) (fun he => ?_)
  · simp at he
  clear he
  refine amGo ?_
  (simp only [xe,simprocAttr];refine ⟨_,rfl,rfl,Imp.eq ?_⟩)
  rfl
set_option maxHeartbeats 2000000 in
theorem law_good (x0a:List (List Int)) (x0b:List (List Int)) (x1:Int) (x2:Int×Int) (hb:fcB x0a x0b x1 x2=true):Does Try.prog 3 [prA x0a x0b,.int x1,frA x2] (.imm (.bool true)):=by
  refine spec_imm Try.func3 rfl Try.ntmps3 cfOK (fun _ _=>by kernel_rfl) rfl (Nat.le_of_ble_eq_true rfl) ?_
  intro M0 w0
  rw [Try.results3]
  refine amGo ?_
  ((try refine Or.inl ?_);refine ⟨_,(szProblem_d x0a x0b _ (by omega) (by omega)),.inl rfl,?_⟩;refine amC ?_)
  refine amGo ?_
  refine awp_cond amQ (fun hc0 => ?_) (fun hc0 => ?_)
  · refine amGo ?_
    (simp only [xe,simprocAttr];refine ⟨_,rfl,rfl,Imp.eq ?_⟩)
    rfl
  have hc0:=Int.not_lt.1 (of_decide_eq_false hc0)
  have hl0:(szS2 szII szII x0a x0b 1048576)≤1048576:=Int.le_trans (szS2_le (fun x {_} h=>szII_le x h) (fun x {_} h=>szII_le x h) x0a x0b (by omega)) (by omega)
  have hk0:=szS2_ok hc0
  have ha0:=szII_sm (by omega) hk0.1
  have hb0:=szII_sm (Int.le_trans (szII_le x0a (by omega)) (by omega)) hk0.2
  have hn0:=szS2_n (f:=szII) (g:=szII) (N:=nII) (N':=nII) (fun _ {_} h=>szII_n h) (fun _ {_} h=>szII_n h) hc0
  have hz:=fcW_len hb
  refine amGo ?_
  ((try refine Or.inl ?_);refine ⟨_,(toProblem_d x0a x0b ha0 hb0),amF,?_⟩;refine amC ?_)
  ((try refine Or.inl ?_);refine ⟨_,(toFrac_d x2),amF,?_⟩;refine amC ?_)
  ((try refine Or.inl ?_);refine ⟨_,(spec_FindCredit_d x0a x0b x1 x2),amF,?_⟩;refine amC ?_)
  rw [hb]
  refine amGo ?_
  (refine .inr (.inl (callW_b (toProblem_h x0a x0b ha0 hb0) rfl rfl rfl rfl rfl rfl rfl ?_));refine amC ?_)
  (refine amB ?_;refine awp_anyC 4 (impl_FindCredit_h x0a x0b x1 x2 hb) rfl rfl rfl (by kernel_rfl) (by kernel_rfl) (by kernel_rfl) ?_;refine amDR ?_)
  (refine ⟨_,(toFrac_d x2),amF,?_⟩;refine amDC ?_)
  (refine ⟨⟨_,rfl,rfl,rfl⟩,?_⟩;refine amDC ?_)
  refine amGo ?_
  ((try refine Or.inl ?_);refine ⟨_,(eqI_d (fcW x0a x0b x1 x2) (fcW x0a x0b x1 x2)),.inl rfl,?_⟩;refine amC ?_)
  refine amGo ?_
  refine awp_cond amQ (fun he => ?_) (fun he => ?_)
  · simp at he
  clear he
  refine amGo ?_
  ((try refine Or.inl ?_);refine ⟨_,(toProblem_d x0a x0b ha0 hb0),amF,?_⟩;refine amC ?_)
  ((try refine Or.inl ?_);refine ⟨_,(eqProblem_d x0a x0a x0b x0b),.inl rfl,?_⟩;refine amC ?_)
  refine amGo ?_
  refine awp_cond amQ (fun he => ?_) (fun he => ?_)
  · simp at he
  clear he
  refine amGo ?_
  (refine .inr (.inl (callW_a [2,3] (markProblem_h (1) x0a x0b ⟨by omega,by omega⟩ ha0.1 ha0.2 hb0.1 hb0.2) rfl rfl rfl rfl ⟨rfl,rfl,trivial⟩ rfl rfl rfl rfl ?_));refine amC ?_)
  refine amGo ?_
  first | (((try refine Or.inl ?_);refine ⟨_,(fun _=>eqI_d (fcW x0a x0b x1 x2) (fcW x0a x0b x1 x2)),.inl rfl,?_⟩;refine amC ?_)) | (((try refine Or.inl ?_);refine ⟨_,(eqI_d (fcW x0a x0b x1 x2) (fcW x0a x0b x1 x2)),.inl rfl,?_⟩;refine amC ?_))
  refine amGo ?_
  refine awp_cond amQ (fun he => ?_) (fun he => ?_)
  · simp at he<;>omega
  clear he
  refine amGo ?_
  (refine .inr (.inl (callW_a [5] (markI_h (1) (fcW x0a x0b x1 x2) ⟨by omega,by omega⟩ (by omega)) rfl rfl rfl rfl ⟨rfl,trivial⟩ rfl rfl rfl rfl ?_));refine amC ?_)
  refine amGo ?_
  ((try refine Or.inl ?_);refine ⟨_,(heldI_d (1) (fcW x0a x0b x1 x2) ⟨by omega,by omega⟩ (by omega)),.inl rfl,?_⟩;refine amC ?_)
  refine amGo ?_
  refine awp_cond amQ (fun he => ?_) (fun he => ?_)
  · simp at he<;>omega
  clear he
  refine amGo ?_
  refine awp_cond amQ (fun he => ?_) (fun he => ?_)
  · simp at he
  clear he
  refine amGo ?_
  ((try refine Or.inl ?_);refine ⟨_,(toProblem_d x0a x0b ha0 hb0),amF,?_⟩;refine amC ?_)
  ((try refine Or.inl ?_);refine ⟨_,(toFrac_d x2),amF,?_⟩;refine amC ?_)
  ((try refine Or.inl ?_);refine ⟨_,(impl_FindCredit_i x0a x0b x1 x2 hb),amF,?_⟩;refine amC ?_)
  refine amGo ?_
  ((try refine Or.inl ?_);refine ⟨_,(eqI_d (fcW x0a x0b x1 x2) (fcW x0a x0b x1 x2)),.inl rfl,?_⟩;refine amC ?_)
  refine amGo ?_
  refine awp_cond amQ (fun he => ?_) (fun he => ?_)
  · simp at he
  clear he
  refine amGo ?_
  ((try refine Or.inl ?_);refine ⟨_,(heldI_d (1) (fcW x0a x0b x1 x2) ⟨by omega,by omega⟩ (by omega)),.inl rfl,?_⟩;refine amC ?_)
  refine amGo ?_
  refine awp_cond amQ (fun he => ?_) (fun he => ?_)
  · simp at he<;>omega
  clear he
  refine amGo ?_
  refine awp_cond amQ (fun he => ?_) (fun he => ?_)
  · simp at he
  clear he
  refine amGo ?_
  (simp only [xe,simprocAttr];refine ⟨_,rfl,rfl,Imp.eq ?_⟩)
  rfl
theorem law_d (x0a:List (List Int)) (x0b:List (List Int)) (x1:Int) (x2:Int×Int):Does Try.prog 3 [prA x0a x0b,.int x1,frA x2] (.imm (.bool true)):=by
  cases hb:fcB x0a x0b x1 x2
  · exact law_bad x0a x0b x1 x2 hb
  · exact law_good x0a x0b x1 x2 hb
theorem own:ownKnob Try.prog.godebug=none:=by kernel_rfl
theorem cells1:Try.prog.cellsOf 3=1∧Try.prog.cellsOf 28=1:=⟨by kernel_rfl,by kernel_rfl⟩
theorem openS {H:Type} {enc:TypeId×Value→H} {w:World} {base:Nat} {held:Bool} {fuel:Nat} {cs:List Value} {y:DataW H×List MemPlace} (h:DataW.trod enc Try.prog w base (fun _=>true) held fuel 28 cs=some y):∃ v xs,cs=[v]∧SlI w v xs:=by
  obtain ⟨v,xs,h1,h2,-⟩:=openI Try.underlying28 Try.underlying3 cells1.1 h
  exact ⟨v,xs,h1,h2⟩
theorem openSS {H:Type} {enc:TypeId×Value→H} {w:World} {base:Nat} {held:Bool} {fuel:Nat} {cs:List Value} {y:DataW H×List MemPlace} (h:DataW.trod enc Try.prog w base (fun _=>true) held fuel 22 cs=some y):∃ v xs,cs=[v]∧SlO SlI w v xs:=by
  obtain ⟨v,xs,h1,h2,-⟩:=openO (R:=SlI) (Q:=fun _=>True) Try.underlying22 (by kernel_rfl) (fun _ _ _ h=>by obtain ⟨v,x,h1,h2⟩:=openS h;exact ⟨v,x,h1,h2,trivial⟩) h
  exact ⟨v,xs,h1,h2⟩
theorem two {cs:Array Value} {u1 u2:Value} (h:cs.size=2) (h1:((cs.toList).drop 0).take 1=[u1]) (h2:((cs.toList).drop 1).take 1=[u2]):cs=#[u1,u2]:=by
  obtain ⟨l⟩:=cs
  match l,h with
  | [a,b],_ =>
    simp at h1 h2
    rw [h1,h2]
set_option maxRecDepth 100000 in
theorem lifted (os:Os) (started:os.Started) (H:Type) (enc:TypeId×Value→H) :
    ReturnsInHanded {} Try.checked os 3 .any (Rows.fnExactFindCreditSpec.pre6 enc Try.prog Try.f3 Rows.fnExactFindCreditRow.domain false) (Rows.fnExactFindCreditSpec.post enc Try.prog Try.f3 false true false false):=by
  refine returnsInHanded_of_change (C:=Try.checked) own started (by kernel_rfl) Try.func3
    (ChangeSpec.witness6 (enc:=enc) (C:=Try.checked) false ⟨#[],#[.agg #[.slice none 0 0,.slice none 0 0],.int .i64 0,.agg #[.int .i64 0,.int .i64 0]],[]⟩ 8 (by kernel_rfl) (by kernel_rfl) (by kernel_rfl) (by kernel_rfl)) ?_
  intro W base args ds gs before hval0 hW hcnd _
  have hval:∀ (j:Nat) t v,Try.f3.params[j]? = some t→args[j]? = some v→Value.okWide Try.prog W .any base t v:=hval0
  have hW':=hW
  obtain ⟨p,q,hA0,hV,rfl,hfz,hnd⟩:=hW
  have hA:DataW.TrodAll enc Try.prog W 0 (fun _=>true) true Try.f3.params.toList args.toList ds p:=hA0
  rw [Try.params3] at hA hval
  obtain ⟨v0,vs0,d0,ds0,p0,q0,hargs,rfl,rfl,⟨f0,h0⟩,r0⟩:=trodAll_cons hA
  obtain ⟨v1,vs1,d1,ds1,p1,q1,rfl,rfl,rfl,h1,r1⟩:=trodAll_cons r0
  obtain ⟨v2,vs2,d2,ds2,p2,q2,rfl,rfl,rfl,⟨f2,h2⟩,r2⟩:=trodAll_cons r1
  obtain ⟨rfl,rfl,rfl⟩:=trodAll_nil r2
  obtain rfl:args=#[v0,v1,v2]:=by cases args;simp_all
  obtain ⟨rfl,rfl⟩:=trodVars_none hV
  obtain ⟨cs0,rfl,z0⟩:=okWide_struct Try.underlying24 (hval 0 24 v0 rfl rfl)
  obtain ⟨y0a,y0b,k0,_,_,k0a,k0b⟩:=trod_struct2 Try.underlying24 h0
  obtain ⟨u0a,x0a,e0a,g0a⟩:=openSS k0a
  obtain ⟨u0b,x0b,e0b,g0b⟩:=openSS k0b
  rw [show Try.prog.cellsOf 24=2 by kernel_rfl] at z0
  obtain rfl:=two z0 e0a e0b
  obtain ⟨n1,rfl,rfl,rfl,w1⟩:=open_int Try.underlying3 (hval 1 3 v1 rfl rfl) h1
  obtain ⟨cs2,rfl,z2⟩:=okWide_struct Try.underlying26 (hval 2 26 v2 rfl rfl)
  obtain ⟨y2a,y2b,k2,_,_,k2a,k2b⟩:=trod_struct2 Try.underlying26 h2
  obtain ⟨x2a,e2a,_,_⟩:=DataW.trod_int Try.underlying3 k2a
  obtain ⟨x2b,e2b,_,_⟩:=DataW.trod_int Try.underlying3 k2b
  rw [show Try.prog.cellsOf 26=2 by kernel_rfl] at z2
  obtain rfl:=two z2 e2a e2b
  refine (calls_val (law_d x0a x0b n1 (x2a,x2b)) (args_cons (two_ls (sii_of_sl g0a) (sii_of_sl g0b)) (args_cons rfl (args_cons (two_ls rfl rfl) args_nil)))).mono fun e W' ⟨he,hg⟩=>⟨.bool true,he,?_⟩
  exact law_post laidF (by rw [Try.params3];intro t ht;simp at ht;rcases ht with rfl | rfl | rfl<;>exact ⟨by kernel_rfl,of_decide_eq_true (by kernel_rfl)⟩) rfl (by kernel_rfl) Try.underlying4 hW' rfl hg
theorem closed:joinedFacts Try.prog 3 Try.f3 Rows.fnExactFindCreditSpec Rows.fnExactFindCreditRow=true:=by
  unfold joinedFacts
  rw [mayF,liftF,makeF,laidF,mapsF]
  kernel_rfl
theorem over:Rows.fnExactFindCreditRow.holds Try.pinned (OpenSpec.ofChange Rows.fnExactFindCreditSpec) :=
  OpenClaim.holds_of_wide 3 Try.f3 rfl rfl rfl rfl rfl rfl rfl ⟨rfl,rfl,rfl,rfl,rfl⟩ rfl rfl rfl rfl rfl (by kernel_rfl) Try.func3 closed
    (of_decide_eq_true (by kernel_rfl)) (by unfold Func.isWrapper;first | (rw [if_pos (by decide +kernel)];kernel_rfl) | (rw [if_neg (by decide +kernel)];exact ⟨rfl,rfl⟩))
    (fun os started H enc _=>lifted os started H enc)
/-- THE STATEMENT -/
theorem proved:Rows.FnExactFindCreditSaid:=over
end Go.Proofs.Ytkcelmnbfbehbaa.fnExactFindCredit
