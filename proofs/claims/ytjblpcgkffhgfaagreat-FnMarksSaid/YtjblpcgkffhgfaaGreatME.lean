/- From the worlds' slices to contents, and back; functions known by calls. Conditions: none. -/
import Derived.Test.YtjblpcgkffhgfaaGreatMD
import Derived.Test.YtjblpcgkffhgfaaGreatGBA
set_option linter.all false
set_option linter.unusedSimpArgs false
set_option linter.unusedVariables false
namespace Go.Proofs.YtjblpcgkffhgfaaGreat
open Go Go.RowKit Am

abbrev Mem.in_ (M:Am.Mem) (w:World):Prop:=∀ ad v,M ad=some v→w.cell? ad=some v
theorem args_nil {M:Am.Mem}:ArgsRel M [] []:=⟨rfl,fun j hj=>by simp at hj⟩
theorem args_cons {M:Am.Mem} {x:AV} {xs:List AV} {u:Value} {us:List Value} (h:x.rel noφ M u) (k:ArgsRel M xs us):ArgsRel M (x::xs) (u::us) :=
  ⟨by simp [k.1],fun j hj hj'=>by
    match j with
    | 0=>exact h
    | j+1=>exact k.2 j (by simpa using hj) (by simpa using hj')⟩
theorem args_inv {M:Am.Mem} {x:AV} {xs:List AV} {us:List Value} (h:ArgsRel M (x::xs) us):∃ u us',us=u::us'∧x.rel noφ M u∧ArgsRel M xs us':=by
  obtain ⟨h1,h2⟩:=h
  match us,h1 with
  | u::us,h1=>exact ⟨u,us,rfl,h2 0 (by simp) (by simp),by simpa using h1,fun j hj hj'=>h2 (j+1) (by simpa using hj) (by simpa using hj')⟩
theorem args_inv0 {M:Am.Mem} {us:List Value} (h:ArgsRel M [] us):us=[]:=List.length_eq_zero_iff.1 h.1
/-- a call, out of what its function does -/
theorem calls_val {P:Program} {f:Nat} {args:List AV} {v:Value} (h:Does P f args (.imm (.val v))) {w:World} {us:List Value} (ha:ArgsRel w.cell? args us):Calls P f us.toArray w fun e w'=>e = .returned v∧Below w.heap.size w w' :=
  (h.2 w.cell? w us (fun _ _ h=>h) ha).mono fun e w' ⟨u,M',h1,_,_,h4,h5⟩=>⟨by rw [h1,show u=v from h4],h5⟩
abbrev frA (a:Int×Int):AV := .tv (.agg [.b (.val (.int .i64 a.1)),.b (.val (.int .i64 a.2))])
end Go.Proofs.YtjblpcgkffhgfaaGreat
/- IndexFunc and ContainsFunc of the library, on the machine. Conditions: a function that hands back a bool for each element. -/
set_option linter.all false
set_option linter.unusedSimpArgs false
set_option linter.unusedVariables false
namespace Go.Proofs.YtjblpcgkffhgfaaGreat
open Go Go.RowKit Am

def capOK:Lf→Bool
  | .b _=>true
  | .ip _ _=>true
  | _=>false
theorem caps_view {H:List Ob}:∀ {caps:List Lf},caps.all capOK=true→caps.mapM (view H)=some caps
  | [],_=>rfl
  | x::caps,h=>by
    simp only [List.all_cons,Bool.and_eq_true] at h
    rw [List.mapM_cons,caps_view h.2]
    cases x<;>simp [capOK] at h<;>rfl
theorem caps_lt {caps:List Lf} (h:caps.all capOK=true):∀ x∈caps,Lf.ltB 0 x=true:=fun x hx=>by
  have:=List.all_eq_true.1 h x hx
  cases x<;>simp [capOK] at this<;>rfl
theorem clo_free {f:Nat} {caps:List Lf} (h:caps.all capOK=true):(AV.clo f caps).free=true:=List.all_eq_true.2 fun x hx=>caps_lt h x hx
theorem indexFuncI_d (xs:List Int) (K:Nat) (caps:List Lf) (p:Int→Bool) (hcap:caps.all capOK=true) (hK:∀ j,j<xs.length→Does Tryz.prog K (.int (xs.getD j 0)::caps.map fun y => .tv (.one y)) (.imm (.bool (p (xs.getD j 0))))) :
    Does Tryz.prog 143 [.sl (.ints xs),.clo K caps] (.imm (.int (idxOf p xs))):=by
  refine spec_imm Tryz.func143 rfl Tryz.ntmps143 cfOK (fun _ _=>by kernel_rfl) (by simp only [List.all_cons,List.all_nil,clo_free hcap];rfl) (Nat.le_of_ble_eq_true rfl) ?_
  intro M0 w0
  rw [Tryz.results143]
  (refine awp_fits 0 rfl fun hf => ?_;simp only [xp,simprocAttr] at hf;simp only [xf,simprocAttr] at hf)
  refine amGo ?_
  refine awp_rounds (α:=Nat) (fun k=>[(8,true,.int k)]) [0,1,6,7] (fun _=>[]) (fun k=>k≤xs.length∧∀ x∈xs.take k,p x=false) (fun k=>xs.length-k) 0 (by ((try simp only [xk]);(repeat (refine leK_cons ?_ ?_;first | (exact amE) | rotate_left));(try exact leK_nil rfl);(all_goals (try (simp only [xr,simprocAttr];try refine int_eq1 ?_))))) ⟨Nat.zero_le _,by simp⟩ fun k hk => ?_
  obtain ⟨hk,hp⟩:=hk
  simp only [xr,simprocAttr]
  refine amGo ?_
  refine awp_cond amQ (fun hc => ?_) (fun hc => ?_)
  · have hk':k<xs.length:=by simpa using hc
    have hx:xs.getD k 0=xs[k]:=by simp [hk']
    refine amGo ?_
    (simp only [xr,simprocAttr,caps_view hcap];refine amS ?_)
    ((try refine Or.inl ?_);refine ⟨_,(hK k hk'),.inl rfl,?_⟩;refine amC ?_)
    refine amGo ?_
    refine awp_cond amQ (fun hd => ?_) (fun hd => ?_)
    · refine amGo ?_
      (simp only [xe,simprocAttr];refine ⟨_,rfl,rfl,Imp.eq ?_⟩)
      rw [hx] at hd
      rw [idxOf_some hk' hd hp]
    · refine amGo ?_
      refine ⟨k+1,by omega,fun x hx' => ?_,by omega,.inl ?_⟩
      · rw [List.take_succ_eq_append_getElem hk',List.mem_append,List.mem_singleton] at hx'
        rcases hx' with hx' | rfl
        · exact hp x hx'
        · rw [← hx];exact hd
      · ((try simp only [xk]);(repeat (refine leK_cons ?_ ?_;first | (exact amE) | rotate_left));(try exact leK_nil rfl);(all_goals (try (simp only [xr,simprocAttr];try refine int_eq1 ?_))))
  · have hk':k=xs.length:=by simp at hc;omega
    subst hk'
    rw [List.take_length] at hp
    refine amGo ?_
    (simp only [xe,simprocAttr];refine ⟨_,rfl,rfl,Imp.eq ?_⟩)
    rw [idxOf_none hp]
theorem containsFuncI_d (xs:List Int) (K:Nat) (caps:List Lf) (p:Int→Bool) (hcap:caps.all capOK=true) (hK:∀ j,j<xs.length→Does Tryz.prog K (.int (xs.getD j 0)::caps.map fun y => .tv (.one y)) (.imm (.bool (p (xs.getD j 0))))) :
    Does Tryz.prog 100 [.sl (.ints xs),.clo K caps] (.imm (.bool (xs.any p))):=by
  refine spec_imm Tryz.func100 rfl Tryz.ntmps100 cfOK (fun _ _=>by kernel_rfl) (by simp only [List.all_cons,List.all_nil,clo_free hcap];rfl) (Nat.le_of_ble_eq_true rfl) ?_
  intro M0 w0
  rw [Tryz.results100]
  refine amGo ?_
  (simp only [xr,simprocAttr,caps_view hcap];refine amS ?_)
  ((try refine Or.inl ?_);refine ⟨_,(indexFuncI_d xs K caps p hcap hK),.inl rfl,?_⟩;refine amC ?_)
  refine amGo ?_
  (simp only [xe,simprocAttr];refine ⟨_,rfl,rfl,Imp.eq ?_⟩)
  rw [idxOf_any]
end Go.Proofs.YtjblpcgkffhgfaaGreat
/- The laws' helpers for sizes, copies and likeness of slices, on the machine. Conditions: sizes that are small. -/
set_option linter.all false
set_option linter.unusedSimpArgs false
set_option linter.unusedVariables false
namespace Go.Proofs.YtjblpcgkffhgfaaGreat
open Go Go.RowKit Am

end Go.Proofs.YtjblpcgkffhgfaaGreat
/- The laws' copies of slices, on the machine. Conditions: lengths that are small. -/
set_option linter.all false
set_option linter.unusedSimpArgs false
set_option linter.unusedVariables false
namespace Go.Proofs.YtjblpcgkffhgfaaGreat
open Go Go.RowKit Am

end Go.Proofs.YtjblpcgkffhgfaaGreat
/- The laws' likeness of slices, on the machine. Conditions: none. -/
set_option linter.all false
set_option linter.unusedSimpArgs false
set_option linter.unusedVariables false
namespace Go.Proofs.YtjblpcgkffhgfaaGreat
open Go Go.RowKit Am

end Go.Proofs.YtjblpcgkffhgfaaGreat
/- The laws' helpers for problems, mixtures and chances, on the machine. Conditions: sizes that are small. -/
set_option linter.all false
set_option linter.unusedSimpArgs false
set_option linter.unusedVariables false
namespace Go.Proofs.YtjblpcgkffhgfaaGreat
open Go Go.RowKit Am

end Go.Proofs.YtjblpcgkffhgfaaGreat
