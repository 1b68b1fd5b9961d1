/- From the worlds' slices to contents, and back; functions known by calls. Conditions: none. -/
import Derived.Test.YtjblpcgkffhgfaaGreatMD
import Derived.Test.YtjblpcgkffhgfaaGreatGBA
set_option linter.all false
set_option linter.unusedSimpArgs false
set_option linter.unusedVariables false
namespace Go.Proofs.YtjblpcgkffhgfaaGreat
open Go Go.RowKit Am

abbrev Mem.in_ (M:Am.Mem) (w:World):Prop:=∀ ad v,M ad=some v→w.cell? ad=some v
section
variable {M:Am.Mem} {w:World} {u:Value}
theorem si_of_sl {xs:List Int} (h:SlI w u xs):SI w.cell? u xs:=by
  obtain ⟨A,c,e,h1,h2,h3⟩:=h
  refine ⟨xs.map (Value.int .i64),⟨A,c,e,h1,h2,h3⟩,by simp,fun j o hj ho => ?_⟩
  obtain rfl:o=0:=by omega
  exact ⟨_,by simp [List.getElem?_eq_getElem hj];rfl,by simp [hj]⟩
theorem sl_of_si {xs:List Int} (hm:Mem.in_ M w) (h:SI M u xs):SlI w u xs:=by
  obtain ⟨vs,⟨A,c,e,h1,h2,h3⟩,h4,h5⟩:=h
  have hv:vs=xs.map (Value.int .i64):=List.ext_getElem? fun j=>by
    by_cases hj:j<xs.length
    · obtain ⟨u',e1,e2⟩:=h5 j 0 hj (by omega)
      simp only [Nat.mul_one,Nat.add_zero] at e1
      rw [e1,e2]
      simp [hj]
    · rw [List.getElem?_eq_none (by omega),List.getElem?_eq_none (by simpa using hj)]
  subst hv
  exact ⟨A,c,e,h1,h2,fun hn=>by obtain ⟨ad,e1,h6⟩:=h3 hn;exact ⟨ad,e1,fun j hj=>hm _ _ (h6 j hj)⟩⟩
theorem sl_of_so {α:Type} {R:World→Value→List α→Prop} {R':Am.Mem→Value→List α→Prop} (hm:Mem.in_ M w) (hR:∀ {u x},R' M u x→R w u x) {xs:List (List α)} (h:SO R' M u xs):SlO R w u xs:=by
  obtain ⟨vs,⟨A,c,e,h1,h2,h3⟩,h4,h5⟩:=h
  refine ⟨A,c,vs,e,h1,h2,by omega,fun hn=>by obtain ⟨ad,e1,h6⟩:=h3 hn;exact ⟨ad,e1,fun j hj=>hm _ _ (h6 j hj)⟩,fun j hj hj' => ?_⟩
  obtain ⟨u',e1,e2⟩:=h5 j 0 hj' (by omega)
  simp only [Nat.mul_one,Nat.add_zero,List.getElem?_eq_getElem hj,Option.some.injEq] at e1
  subst e1
  simp only [List.getD_eq_getElem?_getD,List.getElem?_eq_getElem hj',Option.getD_some] at e2
  exact hR e2
theorem sl_of_sii {xs:List (List Int)} (hm:Mem.in_ M w) (h:SII M u xs):SlII w u xs:=sl_of_so hm (fun h=>sl_of_si hm h) h
end
theorem args_nil {M:Am.Mem}:ArgsRel M [] []:=⟨rfl,fun j hj=>by simp at hj⟩
theorem args_cons {M:Am.Mem} {x:AV} {xs:List AV} {u:Value} {us:List Value} (h:x.rel noφ M u) (k:ArgsRel M xs us):ArgsRel M (x::xs) (u::us) :=
  ⟨by simp [k.1],fun j hj hj'=>by
    match j with
    | 0=>exact h
    | j+1=>exact k.2 j (by simpa using hj) (by simpa using hj')⟩
theorem args_inv {M:Am.Mem} {x:AV} {xs:List AV} {us:List Value} (h:ArgsRel M (x::xs) us):∃ u us',us=u::us'∧x.rel noφ M u∧ArgsRel M xs us':=by
  obtain ⟨h1,h2⟩:=h
  match us,h1 with
  | u::us,h1=>exact ⟨u,us,rfl,h2 0 (by simp) (by simp),by simpa using h1,fun j hj hj'=>h2 (j+1) (by simpa using hj) (by simpa using hj')⟩
theorem args_inv0 {M:Am.Mem} {us:List Value} (h:ArgsRel M [] us):us=[]:=List.length_eq_zero_iff.1 h.1
theorem ls_two {φ:Nat→Value} {M:Am.Mem} {x y:Lf} {u:Value} (h:(AV.tv (.agg [x,y])).rel φ M u):∃ a b,u = .agg #[a,b]∧x.rel φ M a∧y.rel φ M b:=by
  obtain ⟨us,rfl,h1,h2⟩:=h
  match us,h1 with
  | [a,b],_=>exact ⟨a,b,rfl,h2 0 (by simp) (by simp),h2 1 (by simp) (by simp)⟩
theorem two_ls {φ:Nat→Value} {M:Am.Mem} {x y:Lf} {a b:Value} (h1:x.rel φ M a) (h2:y.rel φ M b):(AV.tv (.agg [x,y])).rel φ M (.agg #[a,b]) :=
  ⟨[a,b],rfl,rfl,fun j hj hj'=>by
    match j with
    | 0=>exact h1
    | 1=>exact h2
    | j+2=>exact absurd hj (by simp)⟩
/-- a function known by its calls, whose value has no part in memory -/
theorem does_val {P:Program} {f:Nat} {args:List AV} {v:Value} (hent:∀ (av:Array Value) (W:World),(callFunc f av).run P W = .ok (.enter f av) W)
    (h:∀ (M:Am.Mem) (w:World) (us:List Value),Mem.in_ M w→ArgsRel M args us→Calls P f us.toArray w fun e w'=>e = .returned v∧Below w.heap.size w w'):Does P f args (.imm (.val v)):=by
  refine ⟨hent,fun M w us hm ha=>(h M w us hm ha).mono fun e w' ⟨h1,h2⟩=>⟨v,M,h1,Am.Mem.le_refl _,fun ad u hu=>⟨?_,.inl hu⟩,rfl,h2⟩⟩
  have h3:=hm ad u hu
  exact (h2.cell (block_lt h3)).trans h3
/-- a call, out of what its function does -/
theorem calls_val {P:Program} {f:Nat} {args:List AV} {v:Value} (h:Does P f args (.imm (.val v))) {w:World} {us:List Value} (ha:ArgsRel w.cell? args us):Calls P f us.toArray w fun e w'=>e = .returned v∧Below w.heap.size w w' :=
  (h.2 w.cell? w us (fun _ _ h=>h) ha).mono fun e w' ⟨u,M',h1,_,_,h4,h5⟩=>⟨by rw [h1,show u=v from h4],h5⟩
abbrev frA (a:Int×Int):AV := .tv (.agg [.b (.val (.int .i64 a.1)),.b (.val (.int .i64 a.2))])
end Go.Proofs.YtjblpcgkffhgfaaGreat
/- IndexFunc and ContainsFunc of the library, on the machine. Conditions: a function that hands back a bool for each element. -/
set_option linter.all false
set_option linter.unusedSimpArgs false
set_option linter.unusedVariables false
namespace Go.Proofs.YtjblpcgkffhgfaaGreat
open Go Go.RowKit Am

def capOK:Lf→Bool
  | .b _=>true
  | .ip _ _=>true
  | _=>false
theorem caps_view {H:List Ob}:∀ {caps:List Lf},caps.all capOK=true→caps.mapM (view H)=some caps
  | [],_=>rfl
  | x::caps,h=>by
    simp only [List.all_cons,Bool.and_eq_true] at h
    rw [List.mapM_cons,caps_view h.2]
    cases x<;>simp [capOK] at h<;>rfl
theorem caps_lt {caps:List Lf} (h:caps.all capOK=true):∀ x∈caps,Lf.ltB 0 x=true:=fun x hx=>by
  have:=List.all_eq_true.1 h x hx
  cases x<;>simp [capOK] at this<;>rfl
theorem clo_free {f:Nat} {caps:List Lf} (h:caps.all capOK=true):(AV.clo f caps).free=true:=List.all_eq_true.2 fun x hx=>caps_lt h x hx
theorem indexFuncI_d (xs:List Int) (K:Nat) (caps:List Lf) (p:Int→Bool) (hcap:caps.all capOK=true) (hK:∀ j,j<xs.length→Does Tryz.prog K (.int (xs.getD j 0)::caps.map fun y => .tv (.one y)) (.imm (.bool (p (xs.getD j 0))))) :
    Does Tryz.prog 143 [.sl (.ints xs),.clo K caps] (.imm (.int (idxOf p xs))):=by
  refine spec_imm Tryz.func143 rfl Tryz.ntmps143 cfOK (fun _ _=>by kernel_rfl) (by simp only [List.all_cons,List.all_nil,clo_free hcap];rfl) (Nat.le_of_ble_eq_true rfl) ?_
  intro M0 w0
  rw [Tryz.results143]
  (refine awp_fits 0 rfl fun hf => ?_;simp only [xp,simprocAttr] at hf;simp only [xf,simprocAttr] at hf)
  refine amGo ?_
  refine awp_rounds (α:=Nat) (fun k=>[(8,true,.int k)]) [0,1,6,7] (fun _=>[]) (fun k=>k≤xs.length∧∀ x∈xs.take k,p x=false) (fun k=>xs.length-k) 0 (by ((try simp only [xk]);(repeat (refine leK_cons ?_ ?_;first | (exact amE) | rotate_left));(try exact leK_nil rfl);(all_goals (try (simp only [xr,simprocAttr];try refine int_eq1 ?_))))) ⟨Nat.zero_le _,by simp⟩ fun k hk => ?_
  obtain ⟨hk,hp⟩:=hk
  simp only [xr,simprocAttr]
  refine amGo ?_
  refine awp_cond amQ (fun hc => ?_) (fun hc => ?_)
  · have hk':k<xs.length:=by simpa using hc
    have hx:xs.getD k 0=xs[k]:=by simp [hk']
    refine amGo ?_
    (simp only [xr,simprocAttr,caps_view hcap];refine amS ?_)
    ((try refine Or.inl ?_);refine ⟨_,(hK k hk'),.inl rfl,?_⟩;refine amC ?_)
    refine amGo ?_
    refine awp_cond amQ (fun hd => ?_) (fun hd => ?_)
    · refine amGo ?_
      (simp only [xe,simprocAttr];refine ⟨_,rfl,rfl,Imp.eq ?_⟩)
      rw [hx] at hd
      rw [idxOf_some hk' hd hp]
    · refine amGo ?_
      refine ⟨k+1,by omega,fun x hx' => ?_,by omega,.inl ?_⟩
      · rw [List.take_succ_eq_append_getElem hk',List.mem_append,List.mem_singleton] at hx'
        rcases hx' with hx' | rfl
        · exact hp x hx'
        · rw [← hx];exact hd
      · ((try simp only [xk]);(repeat (refine leK_cons ?_ ?_;first | (exact amE) | rotate_left));(try exact leK_nil rfl);(all_goals (try (simp only [xr,simprocAttr];try refine int_eq1 ?_))))
  · have hk':k=xs.length:=by simp at hc;omega
    subst hk'
    rw [List.take_length] at hp
    refine amGo ?_
    (simp only [xe,simprocAttr];refine ⟨_,rfl,rfl,Imp.eq ?_⟩)
    rw [idxOf_none hp]
theorem containsFuncI_d (xs:List Int) (K:Nat) (caps:List Lf) (p:Int→Bool) (hcap:caps.all capOK=true) (hK:∀ j,j<xs.length→Does Tryz.prog K (.int (xs.getD j 0)::caps.map fun y => .tv (.one y)) (.imm (.bool (p (xs.getD j 0))))) :
    Does Tryz.prog 100 [.sl (.ints xs),.clo K caps] (.imm (.bool (xs.any p))):=by
  refine spec_imm Tryz.func100 rfl Tryz.ntmps100 cfOK (fun _ _=>by kernel_rfl) (by simp only [List.all_cons,List.all_nil,clo_free hcap];rfl) (Nat.le_of_ble_eq_true rfl) ?_
  intro M0 w0
  rw [Tryz.results100]
  refine amGo ?_
  (simp only [xr,simprocAttr,caps_view hcap];refine amS ?_)
  ((try refine Or.inl ?_);refine ⟨_,(indexFuncI_d xs K caps p hcap hK),.inl rfl,?_⟩;refine amC ?_)
  refine amGo ?_
  (simp only [xe,simprocAttr];refine ⟨_,rfl,rfl,Imp.eq ?_⟩)
  rw [idxOf_any]
end Go.Proofs.YtjblpcgkffhgfaaGreat
/- The laws' helpers for sizes, copies and likeness of slices, on the machine. Conditions: sizes that are small. -/
set_option linter.all false
set_option linter.unusedSimpArgs false
set_option linter.unusedVariables false
namespace Go.Proofs.YtjblpcgkffhgfaaGreat
open Go Go.RowKit Am

end Go.Proofs.YtjblpcgkffhgfaaGreat
/- The laws' copies of slices, on the machine. Conditions: lengths that are small. -/
set_option linter.all false
set_option linter.unusedSimpArgs false
set_option linter.unusedVariables false
namespace Go.Proofs.YtjblpcgkffhgfaaGreat
open Go Go.RowKit Am

end Go.Proofs.YtjblpcgkffhgfaaGreat
/- The laws' likeness of slices, on the machine. Conditions: none. -/
set_option linter.all false
set_option linter.unusedSimpArgs false
set_option linter.unusedVariables false
namespace Go.Proofs.YtjblpcgkffhgfaaGreat
open Go Go.RowKit Am

theorem getD_in {α:Type} {xs:List α} {d:α} {k:Nat} (h:k<xs.length):xs.getD k d=xs[k]:=by simp [h]
end Go.Proofs.YtjblpcgkffhgfaaGreat
/- The laws' helpers for problems, mixtures and chances, on the machine. Conditions: sizes that are small. -/
set_option linter.all false
set_option linter.unusedSimpArgs false
set_option linter.unusedVariables false
namespace Go.Proofs.YtjblpcgkffhgfaaGreat
open Go Go.RowKit Am

end Go.Proofs.YtjblpcgkffhgfaaGreat
