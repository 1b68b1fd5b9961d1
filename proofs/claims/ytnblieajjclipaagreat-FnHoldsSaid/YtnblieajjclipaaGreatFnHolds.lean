/- For all choices, both sides tell alike whether a drawn hold is one, and of a hold no smaller ratio has a credit and each strategy's run along what is asked costs what the hold says; the law returns true. Conditions: none. -/
import Derived.Test.YtnblieajjclipaaGreatZHoP
import Derived.Test.YtnblieajjclipaaGreatZLE
set_option linter.all false
namespace Go.Proofs.YtnblieajjclipaaGreat.fnHolds
open Go Go.ChangeShapes Go.WideShapes Go.ChangeAt Go.RowKit Go.Proofs.YtnblieajjclipaaGreat.Am
theorem acR {bs:List Int} (hb:∀ b∈bs,0<=b/\b<256):Does Tryz.prog 4 [.lf (.b (.raw bs))] (.imm (.bool true)):=by
 by_cases hbig:65536<(bs.length:Int)
 ·exact SY hbig
 obtain ⟨m,s,x,a,A,D,E,hD⟩:=MX hb
 obtain ⟨m2,s2,x2,q,hE⟩:=JR hb
 cases h:holdV m s x a A D E with
 | false=>exact Xi hbig hD hE h
 | true=>exact S9 hbig hD hE h
theorem own:ownKnob Tryz.prog.godebug=none:=by kernel_rfl
theorem aeC:Tryz.prog.cellsOf 3=1/\Tryz.prog.cellsOf 26=1:=⟨by kernel_rfl,by kernel_rfl⟩
theorem Zr:Tryz.prog.cellsOf 5=1:=by kernel_rfl
theorem acZ {H:Type} {enc:TypeId×Value->H} {w:World} {base:Nat} {held:Bool} {fuel:Nat} {cs:List Value} {y:DataW H×List MemPlace} (h:DataW.trod enc Tryz.prog w base (fun _=>true) held fuel 36 cs=some y):∃ v xs,cs=[v]/\SB w.cell? v xs/\∀ n∈xs,0<=n/\n<256:=ZN Tryz.underlying36 Tryz.underlying5 Zr h
theorem two {cs:Array Value} {u1 u2:Value} (h:cs.size=2) (h1:((cs.toList).drop 0).take 1=[u1]) (h2:((cs.toList).drop 1).take 1=[u2]):cs=#[u1,u2]:=by
 obtain ⟨l⟩:=cs
 match l,h with
 | [a,b],_ =>
  simp at h1 h2
  rw [h1,h2]
set_option maxRecDepth 100000 in
theorem lifted (os:Os) (started:os.Started) (H:Type) (enc:TypeId×Value->H) :
  ReturnsInHanded {} Tryz.checked os 4 .any (Rows.fnHoldsSpec.pre6 enc Tryz.prog Tryz.f4 Rows.fnHoldsRow.domain false) (Rows.fnHoldsSpec.post enc Tryz.prog Tryz.f4 false true false false):=by
 refine returnsInHanded_of_change (C:=Tryz.checked) own started (by kernel_rfl) Tryz.func4
  (ChangeSpec.witness6 (enc:=enc) (C:=Tryz.checked) false ⟨#[],#[.slice none 0 0],[]⟩ 8 (by kernel_rfl) (by kernel_rfl) (by kernel_rfl) (by kernel_rfl)) ?_
 intro W base args ds gs before hval0 hW hcnd _
 have hval:∀ (j:Nat) t v,Tryz.f4.params[j]? = some t->args[j]? = some v->Value.okWide Tryz.prog W .any base t v:=hval0
 have hW':=hW
 obtain ⟨p,q,hA0,hV,rfl,hfz,hnd⟩:=hW
 have hA:DataW.TrodAll enc Tryz.prog W 0 (fun _=>true) true Tryz.f4.params.toList args.toList ds p:=hA0
 rw [Tryz.params4] at hA hval
 obtain ⟨v0,vs0,d0,ds0,p0,q0,hargs,rfl,rfl,⟨f0,h0⟩,r0⟩:=trodAll_cons hA
 obtain ⟨rfl,rfl,rfl⟩:=trodAll_nil r0
 obtain rfl:args=#[v0]:=by cases args;simp_all
 obtain ⟨rfl,rfl⟩:=trodVars_none hV
 obtain ⟨u0,x0,e0,⟨g0,b0⟩⟩:=acZ h0
 obtain ⟨A0,l0,c0,rfl⟩:=okWide_slice Tryz.underlying36 (hval 0 36 v0 rfl rfl)
 simp only [Value.cells,List.cons.injEq,and_true] at e0
 subst e0
 refine (Rn (acR b0) (pz g0 TF)).mono fun e W' ⟨he,hg⟩=>⟨.bool true,he,?_⟩
 exact Ve Y2 (by rw [Tryz.params4];intro t ht;simp at ht;subst ht;exact ⟨by kernel_rfl,of_decide_eq_true (by kernel_rfl)⟩) rfl (by kernel_rfl) Tryz.underlying4 hW' rfl hg
theorem closed:joinedFacts Tryz.prog 4 Tryz.f4 Rows.fnHoldsSpec Rows.fnHoldsRow=true:=by
 unfold joinedFacts
 rw [aeE,acS,acT,Y2,acU]
 kernel_rfl
theorem over:Rows.fnHoldsRow.holds Tryz.pinned (OpenSpec.ofChange Rows.fnHoldsSpec) :=
 OpenClaim.holds_of_wide 4 Tryz.f4 rfl rfl rfl rfl rfl rfl rfl ⟨rfl,rfl,rfl,rfl,rfl⟩ rfl rfl rfl rfl rfl (by kernel_rfl) Tryz.func4 closed
  (of_decide_eq_true (by kernel_rfl)) (by unfold Func.isWrapper;first | (rw [if_pos (by decide +kernel)];kernel_rfl) | (rw [if_neg (by decide +kernel)];exact ⟨rfl,rfl⟩))
  (fun os started H enc _=>lifted os started H enc)
theorem proved:Rows.FnHoldsSaid:=over
end Go.Proofs.YtnblieajjclipaaGreat.fnHolds
