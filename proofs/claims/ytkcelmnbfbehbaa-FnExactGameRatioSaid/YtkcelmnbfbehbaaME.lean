/- From the worlds' slices to contents, and back; functions known by calls. Conditions: none. -/
import Derived.Test.YtkcelmnbfbehbaaMD
import Derived.Test.YtkcelmnbfbehbaaGBA
set_option linter.all false
set_option linter.unusedSimpArgs false
set_option linter.unusedVariables false
namespace Go.Proofs.Ytkcelmnbfbehbaa
open Go Go.RowKit Am

abbrev Mem.in_ (M:Am.Mem) (w:World):Prop:=∀ ad v,M ad=some v→w.cell? ad=some v
section
variable {M:Am.Mem} {w:World} {u:Value}
theorem si_of_sl {xs:List Int} (h:SlI w u xs):SI w.cell? u xs:=by
  obtain ⟨A,c,e,h1,h2,h3⟩:=h
  refine ⟨xs.map (Value.int .i64),⟨A,c,e,h1,h2,h3⟩,by simp,fun j o hj ho => ?_⟩
  obtain rfl:o=0:=by omega
  exact ⟨_,by simp [List.getElem?_eq_getElem hj];rfl,by simp [hj]⟩
theorem sl_of_si {xs:List Int} (hm:Mem.in_ M w) (h:SI M u xs):SlI w u xs:=by
  obtain ⟨vs,⟨A,c,e,h1,h2,h3⟩,h4,h5⟩:=h
  have hv:vs=xs.map (Value.int .i64):=List.ext_getElem? fun j=>by
    by_cases hj:j<xs.length
    · obtain ⟨u',e1,e2⟩:=h5 j 0 hj (by omega)
      simp only [Nat.mul_one,Nat.add_zero] at e1
      rw [e1,e2]
      simp [hj]
    · rw [List.getElem?_eq_none (by omega),List.getElem?_eq_none (by simpa using hj)]
  subst hv
  exact ⟨A,c,e,h1,h2,fun hn=>by obtain ⟨ad,e1,h6⟩:=h3 hn;exact ⟨ad,e1,fun j hj=>hm _ _ (h6 j hj)⟩⟩
theorem so_of_sl {α:Type} {R:World→Value→List α→Prop} {R':Am.Mem→Value→List α→Prop} (hR:∀ {u x},R w u x→R' w.cell? u x) {xs:List (List α)} (h:SlO R w u xs):SO R' w.cell? u xs:=by
  obtain ⟨A,c,us,e,h1,h2,h3,h4,h5⟩:=h
  refine ⟨us,⟨A,c,e,h1,h2,h4⟩,by omega,fun j o hj ho => ?_⟩
  obtain rfl:o=0:=by omega
  refine ⟨us[j],by simp [List.getElem?_eq_getElem (show j<us.length by omega)],?_⟩
  have:=hR (h5 j (by omega) hj)
  simpa [List.getD_eq_getElem?_getD,List.getElem?_eq_getElem hj] using this
theorem sl_of_so {α:Type} {R:World→Value→List α→Prop} {R':Am.Mem→Value→List α→Prop} (hm:Mem.in_ M w) (hR:∀ {u x},R' M u x→R w u x) {xs:List (List α)} (h:SO R' M u xs):SlO R w u xs:=by
  obtain ⟨vs,⟨A,c,e,h1,h2,h3⟩,h4,h5⟩:=h
  refine ⟨A,c,vs,e,h1,h2,by omega,fun hn=>by obtain ⟨ad,e1,h6⟩:=h3 hn;exact ⟨ad,e1,fun j hj=>hm _ _ (h6 j hj)⟩,fun j hj hj' => ?_⟩
  obtain ⟨u',e1,e2⟩:=h5 j 0 hj' (by omega)
  simp only [Nat.mul_one,Nat.add_zero,List.getElem?_eq_getElem hj,Option.some.injEq] at e1
  subst e1
  simp only [List.getD_eq_getElem?_getD,List.getElem?_eq_getElem hj',Option.getD_some] at e2
  exact hR e2
theorem sii_of_sl {xs:List (List Int)} (h:SlII w u xs):SII w.cell? u xs:=so_of_sl (fun h=>si_of_sl h) h
theorem sl_of_sii {xs:List (List Int)} (hm:Mem.in_ M w) (h:SII M u xs):SlII w u xs:=sl_of_so hm (fun h=>sl_of_si hm h) h
end
theorem args_nil {M:Am.Mem}:ArgsRel M [] []:=⟨rfl,fun j hj=>by simp at hj⟩
theorem args_cons {M:Am.Mem} {x:AV} {xs:List AV} {u:Value} {us:List Value} (h:x.rel noφ M u) (k:ArgsRel M xs us):ArgsRel M (x::xs) (u::us) :=
  ⟨by simp [k.1],fun j hj hj'=>by
    match j with
    | 0=>exact h
    | j+1=>exact k.2 j (by simpa using hj) (by simpa using hj')⟩
theorem args_inv {M:Am.Mem} {x:AV} {xs:List AV} {us:List Value} (h:ArgsRel M (x::xs) us):∃ u us',us=u::us'∧x.rel noφ M u∧ArgsRel M xs us':=by
  obtain ⟨h1,h2⟩:=h
  match us,h1 with
  | u::us,h1=>exact ⟨u,us,rfl,h2 0 (by simp) (by simp),by simpa using h1,fun j hj hj'=>h2 (j+1) (by simpa using hj) (by simpa using hj')⟩
theorem args_inv0 {M:Am.Mem} {us:List Value} (h:ArgsRel M [] us):us=[]:=List.length_eq_zero_iff.1 h.1
theorem ls_two {φ:Nat→Value} {M:Am.Mem} {x y:Lf} {u:Value} (h:(AV.tv (.agg [x,y])).rel φ M u):∃ a b,u = .agg #[a,b]∧x.rel φ M a∧y.rel φ M b:=by
  obtain ⟨us,rfl,h1,h2⟩:=h
  match us,h1 with
  | [a,b],_=>exact ⟨a,b,rfl,h2 0 (by simp) (by simp),h2 1 (by simp) (by simp)⟩
theorem two_ls {φ:Nat→Value} {M:Am.Mem} {x y:Lf} {a b:Value} (h1:x.rel φ M a) (h2:y.rel φ M b):(AV.tv (.agg [x,y])).rel φ M (.agg #[a,b]) :=
  ⟨[a,b],rfl,rfl,fun j hj hj'=>by
    match j with
    | 0=>exact h1
    | 1=>exact h2
    | j+2=>exact absurd hj (by simp)⟩
/-- a function known by its calls, whose value has no part in memory -/
theorem does_val {P:Program} {f:Nat} {args:List AV} {v:Value} (hent:∀ (av:Array Value) (W:World),(callFunc f av).run P W = .ok (.enter f av) W)
    (h:∀ (M:Am.Mem) (w:World) (us:List Value),Mem.in_ M w→ArgsRel M args us→Calls P f us.toArray w fun e w'=>e = .returned v∧Below w.heap.size w w'):Does P f args (.imm (.val v)):=by
  refine ⟨hent,fun M w us hm ha=>(h M w us hm ha).mono fun e w' ⟨h1,h2⟩=>⟨v,M,h1,Am.Mem.le_refl _,fun ad u hu=>⟨?_,.inl hu⟩,rfl,h2⟩⟩
  have h3:=hm ad u hu
  exact (h2.cell (block_lt h3)).trans h3
/-- a call, out of what its function does -/
theorem calls_val {P:Program} {f:Nat} {args:List AV} {v:Value} (h:Does P f args (.imm (.val v))) {w:World} {us:List Value} (ha:ArgsRel w.cell? args us):Calls P f us.toArray w fun e w'=>e = .returned v∧Below w.heap.size w w' :=
  (h.2 w.cell? w us (fun _ _ h=>h) ha).mono fun e w' ⟨u,M',h1,_,_,h4,h5⟩=>⟨by rw [h1,show u=v from h4],h5⟩
abbrev prA (m s:List (List Int)):AV := .tv (.agg [.b (.sl (.ii m)),.b (.sl (.ii s))])
abbrev frA (a:Int×Int):AV := .tv (.agg [.b (.val (.int .i64 a.1)),.b (.val (.int .i64 a.2))])
end Go.Proofs.Ytkcelmnbfbehbaa
/- IndexFunc and ContainsFunc of the library, on the machine. Conditions: a function that hands back a bool for each element. -/
set_option linter.all false
set_option linter.unusedSimpArgs false
set_option linter.unusedVariables false
namespace Go.Proofs.Ytkcelmnbfbehbaa
open Go Go.RowKit Am

def capOK:Lf→Bool
  | .b _=>true
  | .ip _ _=>true
  | _=>false
theorem caps_view {H:List Ob}:∀ {caps:List Lf},caps.all capOK=true→caps.mapM (view H)=some caps
  | [],_=>rfl
  | x::caps,h=>by
    simp only [List.all_cons,Bool.and_eq_true] at h
    rw [List.mapM_cons,caps_view h.2]
    cases x<;>simp [capOK] at h<;>rfl
theorem caps_lt {caps:List Lf} (h:caps.all capOK=true):∀ x∈caps,Lf.ltB 0 x=true:=fun x hx=>by
  have:=List.all_eq_true.1 h x hx
  cases x<;>simp [capOK] at this<;>rfl
theorem clo_free {f:Nat} {caps:List Lf} (h:caps.all capOK=true):(AV.clo f caps).free=true:=List.all_eq_true.2 fun x hx=>caps_lt h x hx
theorem indexFuncII_d (xs:List (List Int)) (K:Nat) (caps:List Lf) (p:(List Int)→Bool) (hcap:caps.all capOK=true) (hK:∀ j,j<xs.length→Does Try.prog K (.sl (.ints (xs.getD j []))::caps.map fun y => .tv (.one y)) (.imm (.bool (p (xs.getD j []))))) :
    Does Try.prog 71 [.sl (.ii xs),.clo K caps] (.imm (.int (idxOf p xs))):=by
  refine spec_imm Try.func71 rfl Try.ntmps71 cfOK (fun _ _=>by kernel_rfl) (by simp only [List.all_cons,List.all_nil,clo_free hcap];rfl) (Nat.le_of_ble_eq_true rfl) ?_
  intro M0 w0
  rw [Try.results71]
  (refine awp_fits 0 rfl fun hf => ?_;simp only [xp,simprocAttr] at hf;simp only [xf,simprocAttr] at hf)
  refine amGo ?_
  refine awp_rounds (α:=Nat) (fun k=>[(8,true,.int k)]) [0,1,6,7] (fun _=>[]) (fun k=>k≤xs.length∧∀ x∈xs.take k,p x=false) (fun k=>xs.length-k) 0 (by ((try simp only [xk]);(repeat (refine leK_cons ?_ ?_;first | (exact amE) | rotate_left));(try exact leK_nil rfl);(all_goals (try (simp only [xr,simprocAttr];try refine int_eq1 ?_))))) ⟨Nat.zero_le _,by simp⟩ fun k hk => ?_
  obtain ⟨hk,hp⟩:=hk
  simp only [xr,simprocAttr]
  refine amGo ?_
  refine awp_cond amQ (fun hc => ?_) (fun hc => ?_)
  · have hk':k<xs.length:=by simpa using hc
    have hx:xs.getD k []=xs[k]:=by simp [hk']
    refine amGo ?_
    (simp only [xr,simprocAttr,caps_view hcap];refine amS ?_)
    ((try refine Or.inl ?_);refine ⟨_,(hK k hk'),.inl rfl,?_⟩;refine amC ?_)
    refine amGo ?_
    refine awp_cond amQ (fun hd => ?_) (fun hd => ?_)
    · refine amGo ?_
      (simp only [xe,simprocAttr];refine ⟨_,rfl,rfl,Imp.eq ?_⟩)
      rw [hx] at hd
      rw [idxOf_some hk' hd hp]
    · refine amGo ?_
      refine ⟨k+1,by omega,fun x hx' => ?_,by omega,.inl ?_⟩
      · rw [List.take_succ_eq_append_getElem hk',List.mem_append,List.mem_singleton] at hx'
        rcases hx' with hx' | rfl
        · exact hp x hx'
        · rw [← hx];exact hd
      · ((try simp only [xk]);(repeat (refine leK_cons ?_ ?_;first | (exact amE) | rotate_left));(try exact leK_nil rfl);(all_goals (try (simp only [xr,simprocAttr];try refine int_eq1 ?_))))
  · have hk':k=xs.length:=by simp at hc;omega
    subst hk'
    rw [List.take_length] at hp
    refine amGo ?_
    (simp only [xe,simprocAttr];refine ⟨_,rfl,rfl,Imp.eq ?_⟩)
    rw [idxOf_none hp]
end Go.Proofs.Ytkcelmnbfbehbaa
/- The laws' helpers for sizes, copies and likeness of slices, on the machine. Conditions: sizes that are small. -/
set_option linter.all false
set_option linter.unusedSimpArgs false
set_option linter.unusedVariables false
namespace Go.Proofs.Ytkcelmnbfbehbaa
open Go Go.RowKit Am

/-! ### sizes -/
def szS {α:Type} (f:α→Int→Int):List α→Int→Int
  | [],n=>n
  | x::l,n=>if f x n<0 then -1 else szS f l (f x n)
def szI (xs:List Int) (n:Int):Int:=if n-xs.length<0 then -1 else n-xs.length
def szO {α:Type} (f:α→Int→Int) (xs:List α) (n:Int):Int:=if n-xs.length<0 then -1 else szS f xs (n-xs.length)
abbrev szII:=szO szI
theorem szI_le (xs:List Int) {n:Int} (h:0≤n):szI xs n≤n:=by unfold szI;split<;>omega
theorem szS_le {α:Type} {f:α→Int→Int} (hf:∀ x {n},0≤n→f x n≤n):∀ (xs:List α) {n:Int},0≤n→szS f xs n≤n
  | [],_,_=>Int.le_refl _
  | x::l,n,h=>by
    unfold szS
    split
    · omega
    · exact Int.le_trans (szS_le hf l (by omega)) (hf x h)
theorem szO_le {α:Type} {f:α→Int→Int} (hf:∀ x {n},0≤n→f x n≤n) (xs:List α) {n:Int} (h:0≤n):szO f xs n≤n:=by
  unfold szO
  split
  · omega
  · exact Int.le_trans (szS_le hf xs (by omega)) (by omega)
theorem szI_len {xs:List Int} {n:Int} (h:0≤szI xs n):(xs.length:Int)≤n:=by unfold szI at h;split at h<;>omega
theorem szS_mem {α:Type} {f:α→Int→Int} (hf:∀ x {n},0≤n→f x n≤n):∀ {xs:List α} {n:Int},0≤n→0≤szS f xs n→∀ x∈xs,∃ m,0≤m∧m≤n∧0≤f x m
  | [],_,_,_,x,hx=>by simp at hx
  | y::l,n,h0,h,x,hx=>by
    unfold szS at h
    split at h
    · omega
    · rename_i hy
      rcases List.mem_cons.1 hx with rfl | hx
      · exact ⟨n,h0,Int.le_refl _,by omega⟩
      · obtain ⟨m,h1,h2,h3⟩:=szS_mem hf (by omega) h x hx
        exact ⟨m,h1,Int.le_trans h2 (hf y h0),h3⟩
theorem szO_len {α:Type} {f:α→Int→Int} {xs:List α} {n:Int} (h:0≤szO f xs n):(xs.length:Int)≤n:=by unfold szO at h;split at h<;>omega
theorem szO_mem {α:Type} {f:α→Int→Int} (hf:∀ x {n},0≤n→f x n≤n) {xs:List α} {n:Int} (h:0≤szO f xs n):∀ x∈xs,∃ m,0≤m∧m≤n∧0≤f x m:=fun x hx=>by
  unfold szO at h
  split at h
  · omega
  · obtain ⟨m,h1,h2,h3⟩:=szS_mem hf (by omega) h x hx
    exact ⟨m,h1,by omega,h3⟩
theorem szI_d (xs:List Int) (n:Int) (h0:0≤n) (h1:n≤1048576):Does Try.prog 32 [.sl (.ints xs),.int n] (.imm (.int (szI xs n))):=by
  refine spec_imm Try.func32 rfl Try.ntmps32 cfOK (fun _ _=>by kernel_rfl) rfl (Nat.le_of_ble_eq_true rfl) ?_
  intro M0 w0
  rw [Try.results32]
  (refine awp_fits 0 rfl fun hf => ?_;simp only [xp,simprocAttr] at hf;simp only [xf,simprocAttr] at hf)
  refine amGo ?_
  refine awp_cond amQ (fun hc => ?_) (fun hc => ?_)
  · refine amGo ?_
    (simp only [xe,simprocAttr];refine ⟨_,rfl,rfl,Imp.eq ?_⟩)
    simp only [decide_eq_true_eq] at hc
    unfold szI
    rw [if_pos hc]
  · refine amGo ?_
    (simp only [xe,simprocAttr];refine ⟨_,rfl,rfl,Imp.eq ?_⟩)
    simp only [decide_eq_false_iff_not] at hc
    unfold szI
    rw [if_neg hc]
theorem szII_d (xs:List (List Int)) (n:Int) (h0:0≤n) (h1:n≤1048576):Does Try.prog 18 [.sl (.ii xs),.int n] (.imm (.int (szII xs n))):=by
  refine spec_imm Try.func18 rfl Try.ntmps18 cfOK (fun _ _=>by kernel_rfl) rfl (Nat.le_of_ble_eq_true rfl) ?_
  intro M0 w0
  rw [Try.results18]
  (refine awp_fits 0 rfl fun hf => ?_;simp only [xp,simprocAttr] at hf;simp only [xf,simprocAttr] at hf)
  obtain ⟨hf,-⟩:=hf
  refine amGo ?_
  refine awp_cond amQ (fun hc => ?_) (fun hc => ?_)
  · refine amGo ?_
    (simp only [xe,simprocAttr];refine ⟨_,rfl,rfl,Imp.eq ?_⟩)
    simp only [decide_eq_true_eq] at hc
    show _=AV.int (szO szI xs n)
    unfold szO
    rw [if_pos hc]
  simp only [decide_eq_false_iff_not] at hc
  have hS:szII xs n=szS szI xs (n-xs.length):=by show szO szI xs n=_;unfold szO;rw [if_neg hc]
  rw [hS]
  refine amGo ?_
  refine awp_rounds (α:=Nat×Int) (fun k=>[(1,true,.int k.2),(5,true,.int k.1)]) [0] (fun _=>[]) (fun k=>k.1≤xs.length∧0≤k.2∧k.2≤1048576∧szS szI (xs.drop k.1) k.2=szS szI xs (n-xs.length)) (fun k=>xs.length-k.1) (0,n-xs.length) (by ((try simp only [xk]);(repeat (refine leK_cons ?_ ?_;first | (exact amE) | rotate_left));(try exact leK_nil rfl);(all_goals (try (simp only [xr,simprocAttr];try refine int_eq1 ?_))))) ⟨Nat.zero_le _,by omega,by omega,rfl⟩ fun k hk => ?_
  obtain ⟨k,c⟩:=k
  obtain ⟨hk,hc0,hc1,hR⟩:=hk
  dsimp only at hk hc0 hc1 hR
  simp only [xr,simprocAttr]
  refine amGo ?_
  refine awp_cond amQ (fun hd => ?_) (fun hd => ?_)
  · have hk':k<xs.length:=by simpa using hd
    have hx:xs.getD k []=xs[k]:=by simp [hk']
    rw [List.drop_eq_getElem_cons hk',← hx] at hR
    have hle:=szI_le (xs.getD k []) hc0
    refine amGo ?_
    ((try refine Or.inl ?_);refine ⟨_,(szI_d _ _ hc0 hc1),.inl rfl,?_⟩;refine amC ?_)
    refine amGo ?_
    refine awp_cond amQ (fun he => ?_) (fun he => ?_)
    · refine amGo ?_
      (simp only [xe,simprocAttr];refine ⟨_,rfl,rfl,Imp.eq ?_⟩)
      simp only [decide_eq_true_eq] at he
      rw [← hR,szS,if_pos he]
    · simp only [decide_eq_false_iff_not] at he
      rw [szS,if_neg he] at hR
      refine amGo ?_
      refine ⟨(k+1,szI (xs.getD k []) c),by omega,by omega,by omega,hR,by omega,.inl ?_⟩
      ((try simp only [xk]);(repeat (refine leK_cons ?_ ?_;first | (exact amE) | rotate_left));(try exact leK_nil rfl);(all_goals (try (simp only [xr,simprocAttr];try refine int_eq1 ?_))))
  · have hk':k=xs.length:=by simp at hd;omega
    subst hk'
    rw [List.drop_length] at hR
    refine amGo ?_
    (simp only [xe,simprocAttr];refine ⟨_,rfl,rfl,Imp.eq ?_⟩)
    rw [← hR,szS]
theorem szII_le (xs:List (List Int)) {n:Int} (h:0≤n):szII xs n≤n:=szO_le (fun x {_} h=>szI_le x h) xs h
end Go.Proofs.Ytkcelmnbfbehbaa
/- The laws' copies of slices, on the machine. Conditions: lengths that are small. -/
set_option linter.all false
set_option linter.unusedSimpArgs false
set_option linter.unusedVariables false
namespace Go.Proofs.Ytkcelmnbfbehbaa
open Go Go.RowKit Am

theorem set_fill {α:Type} (xs:List α) (d:α) {k:Nat} (h:k<xs.length):(xs.take k++List.replicate (xs.length-k) d).set k (xs.getD k d)=xs.take (k+1)++List.replicate (xs.length-(k+1)) d:=by
  have e:xs.length-k=(xs.length-(k+1))+1:=by omega
  rw [e,List.replicate_succ,List.set_append_right _ _ (by simp;omega),List.length_take,Nat.min_eq_left (by omega),Nat.sub_self,List.set_cons_zero,List.take_succ_eq_append_getElem h,List.append_assoc]
  simp [h]
theorem fill_len {α:Type} (xs:List α) (d:α) {k:Nat} (h:k≤xs.length):(xs.take k++List.replicate (xs.length-k) d).length=xs.length:=by simp;omega
theorem fill_all {α:Type} (xs:List α) (d:α):xs.take xs.length++List.replicate (xs.length-xs.length) d=xs:=by simp
theorem toI_h (xs:List Int) (hn:xs.length≤1048576):DoesH Try.prog 40 [.sl (.ints xs)] [] [] (.lf (.own 0)) [.row 3 (.ints xs)]:=by
  refine spec_hB Try.func40 rfl Try.ntmps40 cfOK (fun _ _=>by kernel_rfl) rfl rfl rfl ?_
  intro M0 w0 S φ0
  rw [Try.results40]
  refine amGo ?_
  refine awp_rounds (α:=Nat) (fun k=>[(4,true,.int k)]) [0,3] (fun k=>[.row 3 (.ints (xs.take k++List.replicate (xs.length-k) 0))]) (fun k=>k≤xs.length) (fun k=>xs.length-k) 0 (by ((try simp only [xk]);(repeat (refine leK_cons ?_ ?_;first | (exact amE) | rotate_left));(refine leK_nil ?_;exact (by simp));(all_goals (try (simp only [xr,simprocAttr];try refine int_eq1 ?_))))) (Nat.zero_le _) fun k hk => ?_
  simp only [xr,simprocAttr]
  refine amGo ?_
  refine awp_cond amQ (fun hc => ?_) (fun hc => ?_)
  · have hk':k<xs.length:=by simpa using hc
    have hl:=fill_len xs 0 hk
    refine amGo ?_
    rw [set_fill xs 0 hk']
    refine ⟨k+1,by omega,by omega,.inl ?_⟩
    ((try simp only [xk]);(repeat (refine leK_cons ?_ ?_;first | (exact amE) | rotate_left));(try exact leK_nil rfl);(all_goals (try (simp only [xr,simprocAttr];try refine int_eq1 ?_))))
  · have hk':k=xs.length:=by simp at hc;omega
    subst hk'
    rw [fill_all]
    refine amGo ?_
    (simp only [ends_normal,ends_ret];refine retH_1 [0] rfl ⟨rfl,trivial⟩ rfl rfl rfl rfl rfl ?_;try rfl)
theorem toII_h (xs:List (List Int)) (hn:xs.length≤1048576) (hs:∀ x∈xs,x.length≤1048576):DoesH Try.prog 24 [.sl (.ii xs)] [] [] (.lf (.own 0)) [.tree [28,3] (.ii xs)]:=by
  refine spec_hB Try.func24 rfl Try.ntmps24 cfOK (fun _ _=>by kernel_rfl) rfl rfl rfl ?_
  intro M0 w0 S φ0
  rw [Try.results24]
  refine amGo ?_
  refine awp_rounds (α:=Nat) (fun k=>[(4,true,.int k)]) [0,3] (fun k=>[.tree [28,3] (.ii (xs.take k++List.replicate (xs.length-k) []))]) (fun k=>k≤xs.length) (fun k=>xs.length-k) 0 (by ((try simp only [xk]);(repeat (refine leK_cons ?_ ?_;first | (exact amE) | rotate_left));(refine leK_nil ?_;exact (by simp));(all_goals (try (simp only [xr,simprocAttr];try refine int_eq1 ?_))))) (Nat.zero_le _) fun k hk => ?_
  simp only [xr,simprocAttr]
  refine amGo ?_
  refine awp_cond amQ (fun hc => ?_) (fun hc => ?_)
  · have hk':k<xs.length:=by simpa using hc
    have hl:=fill_len xs [] hk
    have hx:xs.getD k []∈xs:=by simp [hk']
    refine amGo ?_
    (refine .inr (.inl (callW_a [] (toI_h _ (hs _ hx)) rfl rfl rfl rfl trivial rfl rfl rfl rfl ?_));refine amC ?_)
    refine amGo ?_
    rw [set_fill xs [] hk']
    refine ⟨k+1,by omega,by omega,.inr ⟨1,Nat.le_of_ble_eq_true rfl,leT_of ?_ rfl rfl rfl⟩⟩
    ((try simp only [xk]);(repeat (refine leK_cons ?_ ?_;first | (exact amE) | rotate_left));(try exact leK_nil rfl);(all_goals (try (simp only [xr,simprocAttr];try refine int_eq1 ?_))))
  · have hk':k=xs.length:=by simp at hc;omega
    subst hk'
    rw [fill_all]
    refine amGo ?_
    (simp only [ends_normal,ends_ret];refine retH_1 [0] rfl ⟨rfl,trivial⟩ rfl rfl rfl rfl rfl ?_;try rfl)
end Go.Proofs.Ytkcelmnbfbehbaa
/- The laws' likeness of slices, on the machine. Conditions: none. -/
set_option linter.all false
set_option linter.unusedSimpArgs false
set_option linter.unusedVariables false
namespace Go.Proofs.Ytkcelmnbfbehbaa
open Go Go.RowKit Am

theorem getD_in {α:Type} {xs:List α} {d:α} {k:Nat} (h:k<xs.length):xs.getD k d=xs[k]:=by simp [h]
theorem eqI_d (xs ys:List Int):Does Try.prog 10 [.sl (.ints xs),.sl (.ints ys)] (.imm (.bool (decide (xs=ys)))):=by
  refine spec_imm Try.func10 rfl Try.ntmps10 cfOK (fun _ _=>by kernel_rfl) rfl (Nat.le_of_ble_eq_true rfl) ?_
  intro M0 w0
  rw [Try.results10]
  (refine awp_fits 0 rfl fun hf => ?_;simp only [xp,simprocAttr] at hf;simp only [xf,simprocAttr] at hf)
  refine amGo ?_
  refine awp_cond amQ (fun hc => ?_) (fun hc => ?_)
  · have hn:xs≠ys:=fun e=>by simp [e] at hc
    refine amGo ?_
    (simp only [xe,simprocAttr];refine ⟨_,rfl,rfl,Imp.eq ?_⟩)
    rw [decide_eq_false hn]
  have hl:xs.length=ys.length:=by simp at hc;omega
  refine amGo ?_
  refine awp_rounds (α:=Nat) (fun k=>[(5,true,.int k)]) [0,1] (fun _=>[]) (fun k=>k≤xs.length∧xs.take k=ys.take k) (fun k=>xs.length-k) 0 (by ((try simp only [xk]);(repeat (refine leK_cons ?_ ?_;first | (exact amE) | rotate_left));(try exact leK_nil rfl);(all_goals (try (simp only [xr,simprocAttr];try refine int_eq1 ?_))))) ⟨Nat.zero_le _,rfl⟩ fun k hk => ?_
  obtain ⟨hk,hp⟩:=hk
  simp only [xr,simprocAttr]
  refine amGo ?_
  refine awp_cond amQ (fun hd => ?_) (fun hd => ?_)
  · have hk':k<xs.length:=by simpa using hd
    have hky:k<ys.length:=by omega
    refine amGo ?_
    skip
    refine awp_cond amQ (fun he => ?_) (fun he => ?_)
    · have hn:xs≠ys:=fun e=>by simp [e] at he
      refine amGo ?_
      (simp only [xe,simprocAttr];refine ⟨_,rfl,rfl,Imp.eq ?_⟩)
      rw [decide_eq_false hn]
    · refine amGo ?_
      refine ⟨k+1,by omega,?_,by omega,.inl ?_⟩
      · have h2:xs.getD k 0=ys.getD k 0:=by simpa using he
        rw [List.take_succ_eq_append_getElem hk',List.take_succ_eq_append_getElem hky,hp,← getD_in (d:=0) hk',← getD_in (d:=0) hky,h2]
      · ((try simp only [xk]);(repeat (refine leK_cons ?_ ?_;first | (exact amE) | rotate_left));(try exact leK_nil rfl);(all_goals (try (simp only [xr,simprocAttr];try refine int_eq1 ?_))))
  · have hk':k=xs.length:=by simp at hd;omega
    subst hk'
    have he:xs=ys:=by rw [List.take_length,hl,List.take_length] at hp;exact hp
    refine amGo ?_
    (simp only [xe,simprocAttr];refine ⟨_,rfl,rfl,Imp.eq ?_⟩)
    rw [decide_eq_true he]
theorem eqII_d (xs ys:List (List Int)):Does Try.prog 28 [.sl (.ii xs),.sl (.ii ys)] (.imm (.bool (decide (xs=ys)))):=by
  refine spec_imm Try.func28 rfl Try.ntmps28 cfOK (fun _ _=>by kernel_rfl) rfl (Nat.le_of_ble_eq_true rfl) ?_
  intro M0 w0
  rw [Try.results28]
  (refine awp_fits 0 rfl fun hf => ?_;simp only [xp,simprocAttr] at hf;simp only [xf,simprocAttr] at hf)
  refine amGo ?_
  refine awp_cond amQ (fun hc => ?_) (fun hc => ?_)
  · have hn:xs≠ys:=fun e=>by simp [e] at hc
    refine amGo ?_
    (simp only [xe,simprocAttr];refine ⟨_,rfl,rfl,Imp.eq ?_⟩)
    rw [decide_eq_false hn]
  have hl:xs.length=ys.length:=by simp at hc;omega
  refine amGo ?_
  refine awp_rounds (α:=Nat) (fun k=>[(5,true,.int k)]) [0,1] (fun _=>[]) (fun k=>k≤xs.length∧xs.take k=ys.take k) (fun k=>xs.length-k) 0 (by ((try simp only [xk]);(repeat (refine leK_cons ?_ ?_;first | (exact amE) | rotate_left));(try exact leK_nil rfl);(all_goals (try (simp only [xr,simprocAttr];try refine int_eq1 ?_))))) ⟨Nat.zero_le _,rfl⟩ fun k hk => ?_
  obtain ⟨hk,hp⟩:=hk
  simp only [xr,simprocAttr]
  refine amGo ?_
  refine awp_cond amQ (fun hd => ?_) (fun hd => ?_)
  · have hk':k<xs.length:=by simpa using hd
    have hky:k<ys.length:=by omega
    refine amGo ?_
    (((try refine Or.inl ?_);refine ⟨_,(eqI_d _ _),.inl rfl,?_⟩;refine amC ?_))
    refine awp_cond amQ (fun he => ?_) (fun he => ?_)
    · have hn:xs≠ys:=fun e=>by simp [e] at he
      refine amGo ?_
      (simp only [xe,simprocAttr];refine ⟨_,rfl,rfl,Imp.eq ?_⟩)
      rw [decide_eq_false hn]
    · refine amGo ?_
      refine ⟨k+1,by omega,?_,by omega,.inl ?_⟩
      · have h2:xs.getD k []=ys.getD k []:=by simpa using he
        rw [List.take_succ_eq_append_getElem hk',List.take_succ_eq_append_getElem hky,hp,← getD_in (d:=[]) hk',← getD_in (d:=[]) hky,h2]
      · ((try simp only [xk]);(repeat (refine leK_cons ?_ ?_;first | (exact amE) | rotate_left));(try exact leK_nil rfl);(all_goals (try (simp only [xr,simprocAttr];try refine int_eq1 ?_))))
  · have hk':k=xs.length:=by simp at hd;omega
    subst hk'
    have he:xs=ys:=by rw [List.take_length,hl,List.take_length] at hp;exact hp
    refine amGo ?_
    (simp only [xe,simprocAttr];refine ⟨_,rfl,rfl,Imp.eq ?_⟩)
    rw [decide_eq_true he]
end Go.Proofs.Ytkcelmnbfbehbaa
/- The laws' helpers for problems, mixtures and chances, on the machine. Conditions: sizes that are small. -/
set_option linter.all false
set_option linter.unusedSimpArgs false
set_option linter.unusedVariables false
namespace Go.Proofs.Ytkcelmnbfbehbaa
open Go Go.RowKit Am

def smI (xs:List Int):Prop:=xs.length≤1048576
def smII (xs:List (List Int)):Prop:=xs.length≤1048576∧∀ x∈xs,x.length≤1048576
abbrev oII (xs:List (List Int)):Ob := .tree [28,3] (.ii xs)
theorem toProblem_h (a:List (List Int)) (b:List (List Int)) (ha:smII a) (hb:smII b):DoesH Try.prog 7 [prA a b] [] [] (.tv (.agg [.own 0,.own 1])) [oII a,oII b]:=by
  refine spec_hB Try.func7 rfl Try.ntmps7 cfOK (fun _ _=>by kernel_rfl) rfl rfl rfl ?_
  intro M0 w0 S φ0
  rw [Try.results7]
  refine amGo ?_
  (refine .inr (.inl (callW_a [] (toII_h _ ha.1 ha.2) rfl rfl rfl rfl trivial rfl rfl rfl rfl ?_));refine amC ?_)
  refine amGo ?_
  (refine .inr (.inl (callW_a [] (toII_h _ hb.1 hb.2) rfl rfl rfl rfl trivial rfl rfl rfl rfl ?_));refine amC ?_)
  refine amGo ?_
  (simp only [ends_normal,ends_ret];refine retH_1 [3,4] rfl ⟨rfl,rfl,trivial⟩ rfl rfl rfl rfl ⟨amK,rfl⟩ ?_;try rfl)
theorem toProblem_d (a:List (List Int)) (b:List (List Int)) (ha:smII a) (hb:smII b):Does Try.prog 7 [prA a b] (.imm (prA a b)):=imm_of (toProblem_h a b ha hb)
def szS2 {α β:Type} (f:α→Int→Int) (g:β→Int→Int) (a:α) (b:β) (n:Int):Int:=if f a n<0 then -1 else if g b (f a n)<0 then -1 else g b (f a n)
theorem szS2_le {α β:Type} {f:α→Int→Int} {g:β→Int→Int} (hf:∀ x {n},0≤n→f x n≤n) (hg:∀ x {n},0≤n→g x n≤n) (a:α) (b:β) {n:Int} (h:0≤n):szS2 f g a b n≤n:=by
  unfold szS2
  split
  · omega
  · split
    · omega
    · exact Int.le_trans (hg b (by omega)) (hf a h)
theorem szS2_ok {α β:Type} {f:α→Int→Int} {g:β→Int→Int} {a:α} {b:β} {n:Int} (h:0≤szS2 f g a b n):0≤f a n∧0≤g b (f a n):=by
  unfold szS2 at h
  split at h
  · omega
  · split at h
    · omega
    · exact ⟨by omega,by omega⟩
theorem szI_sm {xs:List Int} {n:Int} (h1:n≤1048576) (h:0≤szI xs n):smI xs:=by
  have:=szI_len h
  unfold smI
  omega
theorem szII_sm {xs:List (List Int)} {n:Int} (h1:n≤1048576) (h:0≤szII xs n):smII xs:=by
  have:=szO_len h
  refine ⟨by omega,fun x hx => ?_⟩
  obtain ⟨m,_,h3,h4⟩:=szO_mem (fun x {_} h=>szI_le x h) h x hx
  exact szI_sm (by omega) h4
theorem szProblem_d (a:List (List Int)) (b:List (List Int)) (n:Int) (h0:0≤n) (h1:n≤1048576):Does Try.prog 5 [prA a b,.int n] (.imm (.int (szS2 szII szII a b n))):=by
  refine spec_imm Try.func5 rfl Try.ntmps5 cfOK (fun _ _=>by kernel_rfl) rfl (Nat.le_of_ble_eq_true rfl) ?_
  intro M0 w0
  rw [Try.results5]
  have hle:=szII_le a h0
  refine amGo ?_
  ((try refine Or.inl ?_);refine ⟨_,(szII_d a _ h0 h1),.inl rfl,?_⟩;refine amC ?_)
  refine amGo ?_
  refine awp_cond amQ (fun hc => ?_) (fun hc => ?_)
  · refine amGo ?_
    (simp only [xe,simprocAttr];refine ⟨_,rfl,rfl,Imp.eq ?_⟩)
    simp only [decide_eq_true_eq] at hc
    rw [szS2,if_pos hc]
  simp only [decide_eq_false_iff_not] at hc
  refine amGo ?_
  ((try refine Or.inl ?_);refine ⟨_,(szII_d b _ (by omega) (by omega)),.inl rfl,?_⟩;refine amC ?_)
  refine amGo ?_
  refine awp_cond amQ (fun hd => ?_) (fun hd => ?_)
  · refine amGo ?_
    (simp only [xe,simprocAttr];refine ⟨_,rfl,rfl,Imp.eq ?_⟩)
    simp only [decide_eq_true_eq] at hd
    rw [szS2,if_neg hc,if_pos hd]
  simp only [decide_eq_false_iff_not] at hd
  refine amGo ?_
  (simp only [xe,simprocAttr];refine ⟨_,rfl,rfl,Imp.eq ?_⟩)
  rw [szS2,if_neg hc,if_neg hd]
theorem eqProblem_d (a a':List (List Int)) (b b':List (List Int)):Does Try.prog 11 [prA a b,prA a' b'] (.imm (.bool (decide (a=a') && decide (b=b')))):=by
  refine spec_imm Try.func11 rfl Try.ntmps11 cfOK (fun _ _=>by kernel_rfl) rfl (Nat.le_of_ble_eq_true rfl) ?_
  intro M0 w0
  rw [Try.results11]
  refine amGo ?_
  ((try refine Or.inl ?_);refine ⟨_,(eqII_d _ _),.inl rfl,?_⟩;refine amC ?_)
  refine amGo ?_
  refine awp_cond amQ (fun hc => ?_) (fun hc => ?_)
  · refine amGo ?_
    (simp only [xe,simprocAttr];refine ⟨_,rfl,rfl,Imp.eq ?_⟩)
    simp only [Bool.not_eq_true',decide_eq_false_iff_not] at hc
    simp [hc]
  refine amGo ?_
  ((try refine Or.inl ?_);refine ⟨_,(eqII_d _ _),.inl rfl,?_⟩;refine amC ?_)
  refine amGo ?_
  simp only [Bool.not_eq_false',decide_eq_true_eq] at hc
  refine awp_cond amQ (fun hd => ?_) (fun hd => ?_)
  · refine amGo ?_
    (simp only [xe,simprocAttr];refine ⟨_,rfl,rfl,Imp.eq ?_⟩)
    simp only [Bool.not_eq_true',decide_eq_false_iff_not] at hd
    simp [hd]
  simp only [Bool.not_eq_false',decide_eq_true_eq] at hd
  refine amGo ?_
  (simp only [xe,simprocAttr];refine ⟨_,rfl,rfl,Imp.eq ?_⟩)
  simp [hc,hd]
end Go.Proofs.Ytkcelmnbfbehbaa
