/- From the worlds' slices to contents, and back; functions known by calls. Conditions: none. -/
import Derived.Test.YtnblieajjclipaaGreatMD
import Derived.Test.YtnblieajjclipaaGreatGBA
set_option linter.all false
namespace Go.Proofs.YtnblieajjclipaaGreat
open Go Go.RowKit Am
abbrev Mem.in_ (M:Am.Mem) (w:World):Prop:=∀ ad v,M ad=some v->w.cell? ad=some v
section
variable {M:Am.Mem} {w:World} {u:Value}
theorem yR {xs:List Int} (hm:Mem.in_ M w) (h:SI M u xs):SlI w u xs:=by
 obtain ⟨vs,⟨A,c,e,h1,h2,h3⟩,h4,h5⟩:=h
 have hv:vs=xs.map (Value.int .i64):=List.ext_getElem? fun j=>by
  by_cases hj:j<xs.length
  ·obtain ⟨u',e1,e2⟩:=h5 j 0 hj (by omega)
   simp only [Nat.mul_one,Nat.add_zero] at e1
   rw [e1,e2]
   simp [hj]
  ·rw [List.getElem?_eq_none (by omega),List.getElem?_eq_none (by simpa using hj)]
 subst hv
 exact ⟨A,c,e,h1,h2,fun hn=>by obtain ⟨ad,e1,h6⟩:=h3 hn;exact ⟨ad,e1,fun j hj=>hm _ _ (h6 j hj)⟩⟩
theorem WX {α:Type} {R:World->Value->List α->Prop} {R':Am.Mem->Value->List α->Prop} (hm:Mem.in_ M w) (hR:∀ {u x},R' M u x->R w u x) {xs:List (List α)} (h:SO R' M u xs):SlO R w u xs:=by
 obtain ⟨vs,⟨A,c,e,h1,h2,h3⟩,h4,h5⟩:=h
 refine ⟨A,c,vs,e,h1,h2,by omega,fun hn=>by obtain ⟨ad,e1,h6⟩:=h3 hn;exact ⟨ad,e1,fun j hj=>hm _ _ (h6 j hj)⟩,fun j hj hj' =>?_⟩
 obtain ⟨u',e1,e2⟩:=h5 j 0 hj' (by omega)
 simp only [Nat.mul_one,Nat.add_zero,List.getElem?_eq_getElem hj,Option.some.injEq] at e1
 subst e1
 simp only [List.getD_eq_getElem?_getD,List.getElem?_eq_getElem hj',Option.getD_some] at e2
 exact hR e2
theorem mV {xs:List (List Int)} (hm:Mem.in_ M w) (h:SII M u xs):jr w u xs:=WX hm (fun h=>yR hm h) h
end
theorem TF {M:Am.Mem}:fO M [] []:=⟨rfl,fun j hj=>by simp at hj⟩
theorem pz {M:Am.Mem} {x:AV} {xs:List AV} {u:Value} {us:List Value} (h:x.rel lN M u) (k:fO M xs us):fO M (x::xs) (u::us) :=
 ⟨by simp [k.1],fun j hj hj'=>by
  match j with
  | 0=>exact h
  | j+1=>exact k.2 j (by simpa using hj) (by simpa using hj')⟩
theorem dK {M:Am.Mem} {x:AV} {xs:List AV} {us:List Value} (h:fO M (x::xs) us):∃ u us',us=u::us'/\x.rel lN M u/\fO M xs us':=by
 obtain ⟨h1,h2⟩:=h
 match us,h1 with
 | u::us,h1=>exact ⟨u,us,rfl,h2 0 (by simp) (by simp),by simpa using h1,fun j hj hj'=>h2 (j+1) (by simpa using hj) (by simpa using hj')⟩
theorem iH {M:Am.Mem} {us:List Value} (h:fO M [] us):us=[]:=List.length_eq_zero_iff.1 h.1
theorem zM {φ:Nat->Value} {M:Am.Mem} {x y:Lf} {u:Value} (h:(AV.tv (.agg [x,y])).rel φ M u):∃ a b,u = .agg #[a,b]/\x.rel φ M a/\y.rel φ M b:=by
 obtain ⟨us,rfl,h1,h2⟩:=h
 match us,h1 with
 | [a,b],_=>exact ⟨a,b,rfl,h2 0 (by simp) (by simp),h2 1 (by simp) (by simp)⟩
theorem acv {φ:Nat->Value} {M:Am.Mem} {x y:Lf} {a b:Value} (h1:x.rel φ M a) (h2:y.rel φ M b):(AV.tv (.agg [x,y])).rel φ M (.agg #[a,b]) :=
 ⟨[a,b],rfl,rfl,fun j hj hj'=>by
  match j with
  | 0=>exact h1
  | 1=>exact h2
  | j+2=>exact absurd hj (by simp)⟩
theorem ng {P:Program} {f:Nat} {args:List AV} {v:Value} (hent:∀ (av:Array Value) (W:World),(callFunc f av).run P W = .ok (.enter f av) W)
  (h:∀ (M:Am.Mem) (w:World) (us:List Value),Mem.in_ M w->fO M args us->Calls P f us.toArray w fun e w'=>e = .returned v/\Below w.heap.size w w'):Does P f args (.imm (.val v)):=by
 refine ⟨hent,fun M w us hm ha=>(h M w us hm ha).mono fun e w' ⟨h1,h2⟩=>⟨v,M,h1,Am.Mem.le_refl _,fun ad u hu=>⟨?_,.inl hu⟩,rfl,h2⟩⟩
 have h3:=hm ad u hu
 exact (h2.cell (block_lt h3)).trans h3
theorem Rn {P:Program} {f:Nat} {args:List AV} {v:Value} (h:Does P f args (.imm (.val v))) {w:World} {us:List Value} (ha:fO w.cell? args us):Calls P f us.toArray w fun e w'=>e = .returned v/\Below w.heap.size w w' :=
 (h.2 w.cell? w us (fun _ _ h=>h) ha).mono fun e w' ⟨u,M',h1,_,_,h4,h5⟩=>⟨by rw [h1,show u=v from h4],h5⟩
abbrev prA (m s:List (List Int)):AV := .tv (.agg [.b (.sl (.ii m)),.b (.sl (.ii s))])
abbrev frA (a:Int×Int):AV := .tv (.agg [.b (.val (.int .i64 a.1)),.b (.val (.int .i64 a.2))])
def uP:Lf->Bool
 | .b _=>true
 | .ip _ _=>true
 | _=>false
theorem mM {H:List Ob}:∀ {caps:List Lf},caps.all uP=true->caps.mapM (view H)=some caps
 | [],_=>rfl
 | x::caps,h=>by
  simp only [List.all_cons,Bool.and_eq_true] at h
  rw [List.mapM_cons,mM h.2]
  cases x<;>simp [uP] at h<;>rfl
theorem XD {caps:List Lf} (h:caps.all uP=true):∀ x∈caps,Lf.ltB 0 x=true:=fun x hx=>by
 have:=List.all_eq_true.1 h x hx
 cases x<;>simp [uP] at this<;>rfl
theorem rP {f:Nat} {caps:List Lf} (h:caps.all uP=true):(AV.clo f caps).free=true:=List.all_eq_true.2 fun x hx=>XD h x hx
theorem Ic (xs:List Int) (K:Nat) (caps:List Lf) (p:Int->Bool) (hcap:caps.all uP=true) (hK:∀ j,j<xs.length->Does Tryz.prog K (.int (xs.getD j 0)::caps.map fun y => .tv (.one y)) (.imm (.bool (p (xs.getD j 0))))) :
  Does Tryz.prog 171 [.sl (.ints xs),.clo K caps] (.imm (.int (idxOf p xs))):=by
 refine aF Tryz.func171 rfl Tryz.ntmps171 aQ (fun _ _=>by kernel_rfl) (by simp only [List.all_cons,List.all_nil,rP hcap];rfl) (Nat.le_of_ble_eq_true rfl) ?_
 intro M0 w0
 rw [Tryz.results171]
 (refine bY 0 rfl fun hf =>?_;simp only [xp,simprocAttr] at hf;simp only [xf,simprocAttr] at hf)
 refine ah ?_
 refine aA (α:=Nat) (fun k=>[(8,true,.int k)]) [0,1,6,7] (fun _=>[]) (fun k=>k<=xs.length/\∀ x∈xs.take k,p x=false) (fun k=>xs.length-k) 0 (by exact bW) ⟨Nat.zero_le _,by simp⟩ fun k hk =>?_
 obtain ⟨hk,hp⟩:=hk
 simp only [xr,simprocAttr]
 refine ah ?_
 refine aj amQ (fun hc =>?_) (fun hc =>?_)
 ·have hk':k<xs.length:=by simpa using hc
  have hx:xs.getD k 0=xs[k]:=by simp [hk']
  refine ah ?_
  (simp only [xr,simprocAttr,mM hcap];refine amS ?_)
  ((try refine Or.inl ?_);refine ⟨_,(hK k hk'),.inl rfl,?_⟩;refine amC ?_)
  refine ah ?_
  refine aj amQ (fun hd =>?_) (fun hd =>?_)
  ·refine ah ?_
   refine bJ ?_
   rw [hx] at hd
   rw [ig hk' hd hp]
  ·refine ah ?_
   refine ⟨k+1,by omega,fun x hx' =>?_,by omega,.inl ?_⟩
   ·rw [List.take_succ_eq_append_getElem hk',List.mem_append,List.mem_singleton] at hx'
    rcases hx' with hx' | rfl
    ·exact hp x hx'
    ·rw [← hx];exact hd
   ·exact bW
 ·have hk':k=xs.length:=by simp at hc;omega
  subst hk'
  rw [List.take_length] at hp
  refine ah ?_
  refine bJ ?_
  rw [gZ hp]
theorem uU (xs:List (List Int)) (K:Nat) (caps:List Lf) (p:(List Int)->Bool) (hcap:caps.all uP=true) (hK:∀ j,j<xs.length->Does Tryz.prog K (.sl (.ints (xs.getD j []))::caps.map fun y => .tv (.one y)) (.imm (.bool (p (xs.getD j []))))) :
  Does Tryz.prog 153 [.sl (.ii xs),.clo K caps] (.imm (.int (idxOf p xs))):=by
 refine aF Tryz.func153 rfl Tryz.ntmps153 aQ (fun _ _=>by kernel_rfl) (by simp only [List.all_cons,List.all_nil,rP hcap];rfl) (Nat.le_of_ble_eq_true rfl) ?_
 intro M0 w0
 rw [Tryz.results153]
 (refine bY 0 rfl fun hf =>?_;simp only [xp,simprocAttr] at hf;simp only [xf,simprocAttr] at hf)
 refine ah ?_
 refine aA (α:=Nat) (fun k=>[(8,true,.int k)]) [0,1,6,7] (fun _=>[]) (fun k=>k<=xs.length/\∀ x∈xs.take k,p x=false) (fun k=>xs.length-k) 0 (by exact bW) ⟨Nat.zero_le _,by simp⟩ fun k hk =>?_
 obtain ⟨hk,hp⟩:=hk
 simp only [xr,simprocAttr]
 refine ah ?_
 refine aj amQ (fun hc =>?_) (fun hc =>?_)
 ·have hk':k<xs.length:=by simpa using hc
  have hx:xs.getD k []=xs[k]:=by simp [hk']
  refine ah ?_
  (simp only [xr,simprocAttr,mM hcap];refine amS ?_)
  ((try refine Or.inl ?_);refine ⟨_,(hK k hk'),.inl rfl,?_⟩;refine amC ?_)
  refine ah ?_
  refine aj amQ (fun hd =>?_) (fun hd =>?_)
  ·refine ah ?_
   refine bJ ?_
   rw [hx] at hd
   rw [ig hk' hd hp]
  ·refine ah ?_
   refine ⟨k+1,by omega,fun x hx' =>?_,by omega,.inl ?_⟩
   ·rw [List.take_succ_eq_append_getElem hk',List.mem_append,List.mem_singleton] at hx'
    rcases hx' with hx' | rfl
    ·exact hp x hx'
    ·rw [← hx];exact hd
   ·exact bW
 ·have hk':k=xs.length:=by simp at hc;omega
  subst hk'
  rw [List.take_length] at hp
  refine ah ?_
  refine bJ ?_
  rw [gZ hp]
theorem AX (xs:List Int) (K:Nat) (caps:List Lf) (p:Int->Bool) (hcap:caps.all uP=true) (hK:∀ j,j<xs.length->Does Tryz.prog K (.int (xs.getD j 0)::caps.map fun y => .tv (.one y)) (.imm (.bool (p (xs.getD j 0))))) :
  Does Tryz.prog 141 [.sl (.ints xs),.clo K caps] (.imm (.bool (xs.any p))):=by
 refine aF Tryz.func141 rfl Tryz.ntmps141 aQ (fun _ _=>by kernel_rfl) (by simp only [List.all_cons,List.all_nil,rP hcap];rfl) (Nat.le_of_ble_eq_true rfl) ?_
 intro M0 w0
 rw [Tryz.results141]
 refine ah ?_
 (simp only [xr,simprocAttr,mM hcap];refine amS ?_)
 ((try refine Or.inl ?_);refine ⟨_,(Ic xs K caps p hcap hK),.inl rfl,?_⟩;refine amC ?_)
 refine ah ?_
 refine bJ ?_
 rw [pK]
theorem zx (xs:List (List Int)) (K:Nat) (caps:List Lf) (p:(List Int)->Bool) (hcap:caps.all uP=true) (hK:∀ j,j<xs.length->Does Tryz.prog K (.sl (.ints (xs.getD j []))::caps.map fun y => .tv (.one y)) (.imm (.bool (p (xs.getD j []))))) :
  Does Tryz.prog 123 [.sl (.ii xs),.clo K caps] (.imm (.bool (xs.any p))):=by
 refine aF Tryz.func123 rfl Tryz.ntmps123 aQ (fun _ _=>by kernel_rfl) (by simp only [List.all_cons,List.all_nil,rP hcap];rfl) (Nat.le_of_ble_eq_true rfl) ?_
 intro M0 w0
 rw [Tryz.results123]
 refine ah ?_
 (simp only [xr,simprocAttr,mM hcap];refine amS ?_)
 ((try refine Or.inl ?_);refine ⟨_,(uU xs K caps p hcap hK),.inl rfl,?_⟩;refine amC ?_)
 refine ah ?_
 refine bJ ?_
 rw [pK]
theorem getD_in {α:Type} {xs:List α} {d:α} {k:Nat} (h:k<xs.length):xs.getD k d=xs[k]:=by simp [h]
end Go.Proofs.YtnblieajjclipaaGreat
