/- For all choices, the strategy that a drawn credit allows is one, its run along drawn requests costs at most the ratio times the least cost and the credit's first number, the least credit is one and has no number above the drawn one's, and it is told if the ratio is in bounds; the law returns true. Conditions: none. -/
import Derived.Test.YtkcelmnbfbehbaaGreatZCdW
import Derived.Test.YtkcelmnbfbehbaaGreatZLE
set_option linter.all false
namespace Go.Proofs.YtkcelmnbfbehbaaGreat.fnCredits
open Go Go.ChangeShapes Go.WideShapes Go.ChangeAt Go.RowKit Go.Proofs.YtkcelmnbfbehbaaGreat.Am
theorem acZ {bs:List Int} (hb:∀ b∈bs,0<=b/\b<256):Does Tryz.prog 3 [.lf (.b (.raw bs))] (.imm (.bool true)):=by
 by_cases hbig:65536<(bs.length:Int)
 ·exact Tt hbig
 obtain ⟨m,s,x,a,tab,hD⟩:=Ir hb
 obtain ⟨m2,s2,x2,q2,rs,hE⟩:=RQ hb
 cases h:jC m s x a tab with
 | false=>exact Xo hbig hD h
 | true=>exact Tv hbig hD hE h
theorem own:ownKnob Tryz.prog.godebug=none:=by kernel_rfl
theorem aeP:Tryz.prog.cellsOf 3=1/\Tryz.prog.cellsOf 29=1:=⟨by kernel_rfl,by kernel_rfl⟩
theorem Zt:Tryz.prog.cellsOf 5=1:=by kernel_rfl
theorem ac8 {H:Type} {enc:TypeId×Value->H} {w:World} {base:Nat} {held:Bool} {fuel:Nat} {cs:List Value} {y:DataW H×List MemPlace} (h:DataW.trod enc Tryz.prog w base (fun _=>true) held fuel 22 cs=some y):∃ v xs,cs=[v]/\SB w.cell? v xs/\∀ n∈xs,0<=n/\n<256:=ZQ Tryz.underlying22 Tryz.underlying5 Zt h
theorem two {cs:Array Value} {u1 u2:Value} (h:cs.size=2) (h1:((cs.toList).drop 0).take 1=[u1]) (h2:((cs.toList).drop 1).take 1=[u2]):cs=#[u1,u2]:=by
 obtain ⟨l⟩:=cs
 match l,h with
 | [a,b],_ =>
  simp at h1 h2
  rw [h1,h2]
set_option maxRecDepth 100000 in
theorem lifted (os:Os) (started:os.Started) (H:Type) (enc:TypeId×Value->H) :
  ReturnsInHanded {} Tryz.checked os 3 .any (Rows.fnCreditsSpec.pre6 enc Tryz.prog Tryz.f3 Rows.fnCreditsRow.domain false) (Rows.fnCreditsSpec.post enc Tryz.prog Tryz.f3 false true false false):=by
 refine returnsInHanded_of_change (C:=Tryz.checked) own started (by kernel_rfl) Tryz.func3
  (ChangeSpec.witness6 (enc:=enc) (C:=Tryz.checked) false ⟨#[],#[.slice none 0 0],[]⟩ 8 (by kernel_rfl) (by kernel_rfl) (by kernel_rfl) (by kernel_rfl)) ?_
 intro W base args ds gs before hval0 hW hcnd _
 have hval:∀ (j:Nat) t v,Tryz.f3.params[j]? = some t->args[j]? = some v->Value.okWide Tryz.prog W .any base t v:=hval0
 have hW':=hW
 obtain ⟨p,q,hA0,hV,rfl,hfz,hnd⟩:=hW
 have hA:DataW.TrodAll enc Tryz.prog W 0 (fun _=>true) true Tryz.f3.params.toList args.toList ds p:=hA0
 rw [Tryz.params3] at hA hval
 obtain ⟨v0,vs0,d0,ds0,p0,q0,hargs,rfl,rfl,⟨f0,h0⟩,r0⟩:=trodAll_cons hA
 obtain ⟨rfl,rfl,rfl⟩:=trodAll_nil r0
 obtain rfl:args=#[v0]:=by cases args;simp_all
 obtain ⟨rfl,rfl⟩:=trodVars_none hV
 obtain ⟨u0,x0,e0,⟨g0,b0⟩⟩:=ac8 h0
 obtain ⟨A0,l0,c0,rfl⟩:=okWide_slice Tryz.underlying22 (hval 0 22 v0 rfl rfl)
 simp only [Value.cells,List.cons.injEq,and_true] at e0
 subst e0
 refine (RG (acZ b0) (mJ g0 TP)).mono fun e W' ⟨he,hg⟩=>⟨.bool true,he,?_⟩
 exact Vs Y4 (by rw [Tryz.params3];intro t ht;simp at ht;subst ht;exact ⟨by kernel_rfl,of_decide_eq_true (by kernel_rfl)⟩) rfl (by kernel_rfl) Tryz.underlying4 hW' rfl hg
theorem closed:joinedFacts Tryz.prog 3 Tryz.f3 Rows.fnCreditsSpec Rows.fnCreditsRow=true:=by
 unfold joinedFacts
 rw [aeR,ac0,ac1,Y4,ac2]
 kernel_rfl
theorem over:Rows.fnCreditsRow.holds Tryz.pinned (OpenSpec.ofChange Rows.fnCreditsSpec) :=
 OpenClaim.holds_of_wide 3 Tryz.f3 rfl rfl rfl rfl rfl rfl rfl ⟨rfl,rfl,rfl,rfl,rfl⟩ rfl rfl rfl rfl rfl (by kernel_rfl) Tryz.func3 closed
  (of_decide_eq_true (by kernel_rfl)) (by unfold Func.isWrapper;first | (rw [if_pos (by decide +kernel)];kernel_rfl) | (rw [if_neg (by decide +kernel)];exact ⟨rfl,rfl⟩))
  (fun os started H enc _=>lifted os started H enc)
theorem proved:Rows.FnCreditsSaid:=over
end Go.Proofs.YtkcelmnbfbehbaaGreat.fnCredits
