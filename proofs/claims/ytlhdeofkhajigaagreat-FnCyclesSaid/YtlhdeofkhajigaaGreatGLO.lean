/- The library's slices.Backward over a slice of edges: what it yields. Conditions: those that each names. -/
import Derived.Test.YtlhdeofkhajigaaGreatGAX
import Derived.Test.YtlhdeofkhajigaaGreatGRL
import Derived.Test.YtlhdeofkhajigaaGreatGED
import Derived.Test.YtlhdeofkhajigaaGreatGEX
set_option linter.all false
set_option linter.unusedSimpArgs false
set_option linter.unusedVariables false
namespace Go.Proofs.YtlhdeofkhajigaaGreat
open Am Go Go.RowKit

/-- what yield is handed: the place, and the four numbers -/
def encE (E:List (List Int)) (x:Fin E.length):Array Value:=#[.int .i64 (x.1:Int),.agg #[.int .i64 ((E.getD x.1 []).getD 0 0),.int .i64 ((E.getD x.1 []).getD 1 0),.int .i64 ((E.getD x.1 []).getD 2 0),.int .i64 ((E.getD x.1 []).getD 3 0)]]
/-- from the last to the first -/
def dscE (E:List (List Int)):List (Fin E.length):=List.ofFn fun k:Fin E.length=>⟨E.length-1-k.1,by have:=k.2;omega⟩
theorem dsc_len (E:List (List Int)):(dscE E).length=E.length:=by simp [dscE]
theorem dsc_take (E:List (List Int)) {k:Nat} (hk:k<E.length):(dscE E).take (k+1)=(dscE E).take k++[⟨E.length-1-k,by omega⟩]:=by
  rw [List.take_succ]
  congr 1
  rw [List.getElem?_eq_getElem (by rw [dsc_len];exact hk)]
  simp [dscE]
abbrev itT (l:Nat) (E:List (List Int)) (i:Int):List (Nat×Bool×AV):=[(0,true,.val (.func (.yield l) #[] #[])),(1,true,.lf (.ip [.sl (.k 4 E)] 0)),(3,true,.int i)]
def itK (l:Nat) (E:List (List Int)) (i:Int) (T:Tm):Prop:=T 0=(true,.val (.func (.yield l) #[] #[]))∧T 1=(true,.lf (.ip [.sl (.k 4 E)] 0))∧T 3=(true,.int i)
theorem itK_le {l:Nat} {E:List (List Int)} {i:Int} {T:Tm} (h:itK l E i T):∀ t,tab (itT l E i) t=T t∨tab (itT l E i) t=(true,.und):=keys_le (X:=⟨T,[]⟩) fun p hp=>by
  obtain ⟨h0,h1,h3⟩:=h
  simp only [itT,List.mem_cons,List.not_mem_nil,or_false] at hp
  rcases hp with rfl | rfl | rfl
  · exact .inl h0
  · exact .inl h1
  · exact .inl h3
set_option maxHeartbeats 2000000 in
theorem backward_s (E:List (List Int)) (hE:E.length≤1000000):SeqD Tryz.prog 149 [.ip [.sl (.k 4 E)] 0] (encE E) (dscE E):=by
  refine ⟨fun _ _=>by kernel_rfl,fun M w us hm hls l J Jx W hW hJ hJx hY h0 => ?_⟩
  have hM:∀ ad v,M ad=some v→W.cell? ad=some v:=fun ad v e=>by
    have h1:=hm ad v e
    exact (hW.cell (p:=ad) (by obtain ⟨o,ho,_⟩:=cells_of_cell h1;exact (Array.getElem?_eq_some_iff.1 ho).1)).trans h1
  refine callsIn_of_wp Tryz.func149 rfl trivial ?_ rfl
  have hst:RA Tryz.prog cf (base0 M W) 19 noφ (fun _ _=>False) M ⟨tab (params 0 [.val (.func (.yield l) #[] #[]),.lf (.ip [.sl (.k 4 E)] 0)]),[]⟩ { tmps:=(.func (.yield l) #[] #[]::us).toArray++Array.replicate (Tryz.f149.ntmps-(.func (.yield l) #[] #[]::us).toArray.size) undef,defers:=[] } W :=
    Am.start (fn:=Tryz.f149) (us := .func (.yield l) #[] #[]::us) (S:=fun _=>False) (φ0:=noφ) (fx:=[]) cfOK rfl (fun x hx=>free_lt (List.all_eq_true.1 (by rfl:([.val (.func (.yield l) #[] #[]),.lf (.ip [.sl (.k 4 E)] 0)]:List AV).all AV.free=true) x hx) _) (by show 2≤19;decide) (nilHI hM) (fun i g hi=>by simp at hi) (Nat.le_refl _) rfl ⟨by simp [hls.1],fun j hj hj'=>by
      match j,hj with
      | 0,_=>rfl
      | 1,h=>exact hls.2 0 (by simp) (by rw [hls.1];simp)⟩
  have e1:#[Value.func (.yield l) #[] #[]]++us.toArray=(Value.func (.yield l) #[] #[]::us).toArray:=by simp
  rw [e1]
  generalize ({ tmps:=(Value.func (.yield l) #[] #[]::us).toArray++Array.replicate (Tryz.f149.ntmps-(Value.func (.yield l) #[] #[]::us).toArray.size) undef,defers:=[] }:Act)=a0 at hst ⊢
  have hn:(0:Int)≤E.length∧(E.length:Int)≤1000000:=⟨by omega,by omega⟩
  refine wpIn_seq (q_reg (itK l E ((E.length:Int)-1)) hst ?r0 fun T' a' hT hR => ?_)
  case r0 =>
    (simp only [xr,simprocAttr,qL.eq_1,qL.eq_2,noDefer,itK];refine amS ?_)
    all_goals omega
  have hR0:=hR.move (w':=W) hM (itK_le hT)
  clear hst hR
  refine wpIn_block (wpIn_loop_rounds (E.length+1) ?_)
  obtain ⟨k,hk⟩:∃ k,k=0:=⟨0,rfl⟩
  obtain ⟨m,hm'⟩:∃ m,m=E.length+1:=⟨_,rfl⟩
  obtain ⟨wr,hwr⟩:∃ wr,wr=W:=⟨_,rfl⟩
  have hkl:k≤E.length:=by omega
  have hmk:E.length-k<m:=by omega
  have hR1:RA Tryz.prog cf (base0 M wr) 19 noφ (fun _ _=>False) M ⟨tab (itT l E ((E.length:Int)-1-k)),[]⟩ a' wr:=by rw [hk,hwr,show (E.length:Int)-1-((0:Nat):Int)=E.length-1 by omega];exact hR0
  have hJ1:J ((dscE E).take k) wr:=by rw [hk,hwr];exact h0
  rw [← hm',← hwr]
  clear hR0 hk hm' hwr hT
  induction m generalizing k a' wr with
  | zero=>omega
  | succ m ih =>
    rw [roundsIn_succ]
    refine wpIn_seq (wpIn_seq (q_reg (fun T=>itK l E ((E.length:Int)-1-k) T∧T 8=(true,.bool (decide (k<E.length)))) hR1 ?r1 fun T a hT hR => ?_))
    case r1 =>
      (simp only [xr,simprocAttr,qL.eq_1,qL.eq_2,noDefer,itK];refine amS ?_)
      rw [show decide (0≤(E.length:Int)-1-k)=decide (k<E.length) by rw [decide_eq_decide];omega]
    have hc:=hR.ctx.t (.tmp 8) (by rw [look_tmp];show (T 8).1=true;rw [hT.2])
    rw [look_tmp,show (⟨T,[]⟩:St).T 8=_ from hT.2] at hc
    have hmem:=hR.hi.mem
    have hR2:=hR.move (w':=wr) hmem (itK_le hT.1)
    clear hR1 hR
    by_cases hlt:k<E.length
    · refine wpIn_cond_true (by rw [show a.eval (.tmp 8)=_ from hc,decide_eq_true hlt]) (wpIn_skip ?_)
      refine wpIn_seq (wpIn_block (wpIn_seq (wpIn_region_lit (q_pre 6 (fun T=>itK l E ((E.length:Int)-1-k) T∧T 11=(true,.val (.func (.yield l) #[] #[]))∧T 12=(true,.int ((E.length:Int)-1-k))∧T 16=(true,.tv (.agg [.b (.val (.int .i64 ((E.getD (E.length-1-k) []).getD 0 0))),.b (.val (.int .i64 ((E.getD (E.length-1-k) []).getD 1 0))),.b (.val (.int .i64 ((E.getD (E.length-1-k) []).getD 2 0))),.b (.val (.int .i64 ((E.getD (E.length-1-k) []).getD 3 0)))]))) hR2 ?r3 fun T3 a3 hT3 hR3 => ?_))))
      case r3 =>
        (simp only [xr,simprocAttr,qL.eq_1,qL.eq_2,noDefer,itK,List.take_succ_cons,List.take_zero];refine amS ?_)
        rw [show ((E.length:Int)-1-k).toNat=E.length-1-k by omega]
      have t11:=hR3.ctx.t (.tmp 11) (by rw [look_tmp];show (T3 11).1=true;rw [hT3.2.1])
      rw [look_tmp,show (⟨T3,[]⟩:St).T 11=_ from hT3.2.1] at t11
      have t12:=hR3.ctx.t (.tmp 12) (by rw [look_tmp];show (T3 12).1=true;rw [hT3.2.2.1])
      rw [look_tmp,show (⟨T3,[]⟩:St).T 12=_ from hT3.2.2.1] at t12
      have t16:=hR3.ctx.t (.tmp 16) (by rw [look_tmp];show (T3 16).1=true;rw [hT3.2.2.2])
      rw [look_tmp,show (⟨T3,[]⟩:St).T 16=_ from hT3.2.2.2] at t16
      have e12:a3.eval (.tmp 12) = .int .i64 ((E.length-1-k:Nat):Int):=by rw [show a3.eval (.tmp 12)=_ from t12];congr 1;omega
      have e16:a3.eval (.tmp 16) = .agg #[.int .i64 ((E.getD (E.length-1-k) []).getD 0 0),.int .i64 ((E.getD (E.length-1-k) []).getD 1 0),.int .i64 ((E.getD (E.length-1-k) []).getD 2 0),.int .i64 ((E.getD (E.length-1-k) []).getD 3 0)]:=by
        obtain ⟨vs,e,hl4,hv⟩:=t16
        rw [e]
        match vs,hl4 with
        | [v0,v1,v2,v3],_ =>
          have q0:=hv 0 (by simp) (by simp)
          have q1:=hv 1 (by simp) (by simp)
          have q2:=hv 2 (by simp) (by simp)
          have q3:=hv 3 (by simp) (by simp)
          obtain rfl:v0=_:=q0
          obtain rfl:v1=_:=q1
          obtain rfl:v2=_:=q2
          obtain rfl:v3=_:=q3
          rfl
      show wpListIn _ _ _ _ _ [_,_] _ _
      refine q_yield (l:=l) rfl rfl rfl t11 (args:=encE E ⟨E.length-1-k,by omega⟩) (by simp only [List.map_toArray,List.map_cons,List.map_nil,e12,e16];rfl) (hY ((dscE E).take k) ⟨E.length-1-k,by omega⟩ wr hJ1 (by rw [List.length_take,dsc_len];omega)) fun e w3 he => ?_
      have hstep:∀ (v:Bool) (w3:World),KpM M wr w3→RA Tryz.prog cf (base0 M w3) 19 noφ (fun _ _=>False) M ⟨(tab (itT l E ((E.length:Int)-1-k))).put (some 17) (true,.bool v),[]⟩ (a3.put (some 17) (.bool v)) w3:=fun v w3 hk=>by
        have h1:=hR3.move (w':=w3) (fun ad u e=>hk ad u e (hmem ad u e)) (itK_le hT3.1)
        exact h1.put (by decide) (Mem.le_refl _) h1.new h1.hi h1.below ⟨fun _=>rfl,fun e=>by cases e⟩ (free_lt rfl _)
      have hnone:RA Tryz.prog cf (base0 noM w3) 19 noφ (fun _ _=>False) noM ⟨(tab []).put (some 17) (true,.bool false),[]⟩ (a3.put (some 17) (.bool false)) w3:=by
        have h1:RA Tryz.prog cf (base0 noM w3) 19 noφ (fun _ _=>False) noM ⟨tab [],[]⟩ a3 w3:=⟨hR3.cf,Mem.le_refl _,fun _ _ e => .inl e,nilHI (fun _ _ e=>by cases e),fun t=>⟨fun _=>trivial,fun e=>by cases e⟩,fun t=>und_lt,fun i g hi=>by simp at hi,hR3.size,Kept.refl _ _,⟨Nat.le_refl _,fun i hi=>by simp at hi⟩,hR3.defers⟩
        exact h1.put (by decide) (Mem.le_refl _) h1.new h1.hi h1.below ⟨fun _=>rfl,fun e=>by cases e⟩ (free_lt rfl _)
      rcases he with ⟨rfl,hJ3,hk3⟩ | ⟨rfl,hJx3⟩
      · refine ⟨_,rfl,q_pre 1 (fun T=>itK l E ((E.length:Int)-1-k) T∧T 18=(true,.bool false)) (hstep true w3 hk3) ?o1 fun T5 a5 hT5 hR5 => ?_⟩
        case o1 =>
          simp only [xr,simprocAttr,qL.eq_1,qL.eq_2,noDefer,itK,List.take_succ_cons,List.take_zero]
        have hc5:=hR5.ctx.t (.tmp 18) (by rw [look_tmp];show (T5 18).1=true;rw [hT5.2])
        rw [look_tmp,show (⟨T5,[]⟩:St).T 18=_ from hT5.2] at hc5
        have hm3:∀ ad v,M ad=some v→w3.cell? ad=some v:=fun ad u e=>hk3 ad u e (hmem ad u e)
        have hR6:=hR5.move (w':=w3) hm3 (itK_le hT5.1)
        refine wpIn_cond_false hc5 (wpIn_skip ?_)
        refine q_reg (fun T=>itK l E ((E.length:Int)-1-(k+1:Nat)) T) hR6 ?r2 fun T7 a7 hT7 hR7 => ?_
        case r2 =>
          (simp only [xr,simprocAttr,qL.eq_1,qL.eq_2,noDefer,itK];refine amS ?_)
          all_goals first | omega | exact int_eq1 (by push_cast;omega)
        exact ih a7 (k+1) w3 (by omega) (by omega) (hR7.move hm3 (itK_le hT7)) (by rw [dsc_take E hlt];exact hJ3)
      · refine ⟨_,rfl,q_pre 1 (fun T=>T 18=(true,.bool true)) hnone ?o2 fun T5 a5 hT5 hR5 => ?_⟩
        case o2 =>
          simp only [xr,simprocAttr,qL.eq_1,qL.eq_2,noDefer,itK,List.take_succ_cons,List.take_zero]
        have hc5:=hR5.ctx.t (.tmp 18) (by rw [look_tmp];show (T5 18).1=true;rw [hT5])
        rw [look_tmp,show (⟨T5,[]⟩:St).T 18=_ from hT5] at hc5
        refine wpIn_cond_true hc5 (wpIn_ret ?_)
        exact ⟨hR5.defers,_,results_none (fn:=Tryz.f149) rfl _ _ _,⟨_,rfl⟩,.inr ⟨_,⟨(dscE E).drop (k+1),by rw [← dsc_take E hlt,List.take_append_drop]⟩,hJx3⟩⟩
    · refine wpIn_cond_false (by rw [show a.eval (.tmp 8)=_ from hc,decide_eq_false hlt]) (wpIn_exit ?_)
      have hkE:k=E.length:=by omega
      refine ⟨hR2.defers,_,results_none rfl _ _ _,⟨_,rfl⟩,.inl ⟨_,rfl,?_⟩⟩
      rw [hkE,List.take_of_length_le (by rw [dsc_len];exact Nat.le_refl _)] at hJ1
      exact hJ1
theorem backward_d (E:List (List Int)):Does Tryz.prog 139 [.sl (.k 4 E)] (.imm (.clo 149 [.ip [.sl (.k 4 E)] 0])):=by
  refine spec_clo (s:=2) Tryz.func139 rfl Tryz.ntmps139 cfOK (fun _ _=>by kernel_rfl) rfl rfl rfl rfl ?_
  intro M0 w0
  refine amGoR ?_
  (refine awp_frzB 0 rfl rfl ?_;simp only [xzb,simprocAttr])
  refine amGo ?_
  exact rfl
end Go.Proofs.YtlhdeofkhajigaaGreat
/- impl.longest: its rounds are those of the edges from the last to the first. Conditions: edges between nodes, weights that are not large. -/
set_option linter.all false
set_option linter.unusedSimpArgs false
set_option linter.unusedVariables false
namespace Go.Proofs.YtlhdeofkhajigaaGreat
open Am Go Go.RowKit

def lg1 (wt:List Int→Int) (s:List Int×Bool) (e:List Int):List Int×Bool:=if s.1.getD (efr e) 0<wt e+s.1.getD (eto e) 0 then (s.1.set (efr e) (wt e+s.1.getD (eto e) 0),true) else s
def lgF (wt:List Int→Int) (E:List (List Int)) (o:List Int) (pre:List (Fin E.length)):List Int×Bool:=pre.foldl (fun s x=>lg1 wt s (E.getD x.1 [])) (o,false)
theorem lgF_snoc {wt:List Int→Int} {E:List (List Int)} {o:List Int} {pre:List (Fin E.length)} {x:Fin E.length}:lgF wt E o (pre++[x])=lg1 wt (lgF wt E o pre) (E.getD x.1 []):=by
  unfold lgF
  rw [List.foldl_append]
  rfl
theorem lg1_len {wt:List Int→Int} {s:List Int×Bool} {e:List Int}:(lg1 wt s e).1.length=s.1.length:=by
  unfold lg1
  split
  · simp
  · rfl
theorem lgF_len {wt:List Int→Int} {E:List (List Int)} {o:List Int} (pre:List (Fin E.length)):(lgF wt E o pre).1.length=o.length:=by
  have:∀ (pre:List (Fin E.length)) (s:List Int×Bool),(pre.foldl (fun s x=>lg1 wt s (E.getD x.1 [])) s).1.length=s.1.length:=by
    intro pre
    induction pre with
    | nil=>intro s;rfl
    | cons x pre ih=>intro s;rw [List.foldl_cons,ih,lg1_len]
  exact this pre _
theorem lg1_bd {wt:List Int→Int} {W B:Int} (hW0:0≤W) {s:List Int×Bool} {e:List Int} (hw:wt e≤W) (hs:∀ v:Nat,0≤s.1.getD v 0∧s.1.getD v 0≤B):∀ v:Nat,0≤(lg1 wt s e).1.getD v 0∧(lg1 wt s e).1.getD v 0≤B+W:=by
  intro v
  have h1:=hs v
  have h2:=hs (eto e)
  have h3:=hs (efr e)
  unfold lg1
  split
  · show 0≤(s.1.set _ _).getD v 0∧(s.1.set _ _).getD v 0≤_
    rw [set_getD]
    split<;>omega
  · omega
theorem lgF_bd {wt:List Int→Int} {E:List (List Int)} {W B:Int} (hW0:0≤W) (hW:∀ e∈E,wt e≤W) {o:List Int} (ho:∀ v:Nat,0≤o.getD v 0∧o.getD v 0≤B):∀ (pre:List (Fin E.length)) (v:Nat),0≤(lgF wt E o pre).1.getD v 0∧(lgF wt E o pre).1.getD v 0≤B+pre.length*W:=by
  have:∀ (pre:List (Fin E.length)) (s:List Int×Bool) (B:Int),(∀ v:Nat,0≤s.1.getD v 0∧s.1.getD v 0≤B)→∀ v:Nat,0≤(pre.foldl (fun s x=>lg1 wt s (E.getD x.1 [])) s).1.getD v 0∧(pre.foldl (fun s x=>lg1 wt s (E.getD x.1 [])) s).1.getD v 0≤B+pre.length*W:=by
    intro pre
    induction pre with
    | nil=>intro s B hs v;simpa using hs v
    | cons x pre ih =>
      intro s B hs v
      have h1:=ih _ (B+W) (lg1_bd hW0 (hW _ (getD_mem x.2)) hs) v
      rw [List.foldl_cons,List.length_cons]
      have h2:((pre.length+1:Nat):Int)*W=pre.length*W+W:=by push_cast;rw [Int.add_mul,Int.one_mul]
      omega
  exact fun pre=>this pre _ _ ho
theorem lg_rx {wt:List Int→Int} {E:List (List Int)} {s:BF}:∀ k,k≤E.length→lgF wt E s.num ((dscE E).take k)=((rxN wt E.reverse (newR s) k).num,decide (0≤(rxN wt E.reverse (newR s) k).last))
  | 0,_=>rfl
  | k+1,hk=>by
    have ih:=lg_rx (wt:=wt) (E:=E) (s:=s) k (by omega)
    rw [dsc_take E (k:=k) (by omega),lgF_snoc,ih]
    have he:E.reverse.getD k []=E.getD (E.length-1-k) []:=by
      rw [List.getD_eq_getElem?_getD,List.getD_eq_getElem?_getD,List.getElem?_reverse (l:=E) (show k<E.length by omega)]
    show lg1 wt _ (E.getD (E.length-1-k) [])=_
    rw [← he,show rxN wt E.reverse (newR s) (k+1)=rx1 wt E.reverse k (rxN wt E.reverse (newR s) k) from rfl]
    generalize rxN wt E.reverse (newR s) k=u
    show lg1 wt _ _=((jx1 wt E.reverse u.num k u).num,decide (0≤(jx1 wt E.reverse u.num k u).last))
    unfold lg1 jx1 nbN
    simp only
    split
    · have:decide (0≤(setB u k (E.reverse.getD k []) (wt (E.reverse.getD k [])+u.num.getD (eto (E.reverse.getD k [])) 0)).last)=true:=decide_eq_true (by show (0:Int)≤(efr _:Int);omega)
      rw [this]
      rfl
    · rfl
theorem lg_all {wt:List Int→Int} {E:List (List Int)} {s:BF}:lgF wt E s.num (dscE E)=((rxR wt E.reverse s).num,decide (0≤(rxR wt E.reverse s).last)):=by
  have:=lg_rx (wt:=wt) (E:=E) (s:=s) E.length (Nat.le_refl _)
  rw [List.take_of_length_le (by rw [dsc_len];exact Nat.le_refl _)] at this
  rw [this]
  unfold rxR
  rw [List.length_reverse]
/-- what two descriptions of one row of numbers, or of one box, have in common -/
theorem det_row {φ φ':Nat→Value} {S S':Nat→Prop} {M M':Mem} {w:World} {u:Value} {e:Nat} {a b:List Int} (h:(Ob.row e (.ints a)).rel φ S M w u) (k:(Ob.row e (.ints b)).rel φ' S' M' w u):a=b:=by
  obtain ⟨vs,h1,h2,_⟩:=h
  obtain ⟨vs',k1,k2,_⟩:=k
  have hv:vs=vs'∧a.length=b.length:=by
    rcases h1.2 with ⟨e1,n1⟩ | ⟨g,cap,cur,e1,_,hh,_,_,_,t1⟩
    · rcases k1.2 with ⟨_,n2⟩ | ⟨g',cap',cur',e2,_⟩
      · have q1:a.length=0:=n1
        have q2:b.length=0:=n2
        have l1:=h1.1
        have l2:=k1.1
        rw [n1,Nat.zero_mul] at l1
        rw [n2,Nat.zero_mul] at l2
        exact ⟨by rw [List.length_eq_zero_iff.1 l1,List.length_eq_zero_iff.1 l2],by omega⟩
      · rw [e1] at e2;cases e2
    · rcases k1.2 with ⟨e2,_⟩ | ⟨g',cap',cur',e2,_,hh',_,_,_,t2⟩
      · rw [e1] at e2;cases e2
      · rw [e1] at e2
        injection e2 with e3 e4 e5
        have hg:g=g':=by injection e3 with e3;injection e3
        subst hg
        rw [hh] at hh'
        have hcc:cur=cur':=by injection hh' with hh';injection hh'
        have hl:a.length=b.length:=e4
        refine ⟨?_,hl⟩
        rw [← t1,← t2,hcc]
        show List.take (a.length*1) _=List.take (b.length*1) _
        rw [hl]
  obtain ⟨rfl,hl⟩:=hv
  refine List.ext_getElem hl fun i hi hi' => ?_
  obtain ⟨u1,p1,q1⟩:=h2.2.2 i 0 hi (by show 0<1;omega)
  obtain ⟨u2,p2,q2⟩:=k2.2.2 i 0 hi' (by show 0<1;omega)
  have p1:vs[i*1+0]? = some u1:=p1
  have p2:vs[i*1+0]? = some u2:=p2
  rw [p1] at p2
  cases p2
  have r1:u1 = .int .i64 (a.getD i 0):=q1
  have r2:u1 = .int .i64 (b.getD i 0):=q2
  rw [r1] at r2
  injection r2 with _ r3
  rw [getD_in hi,getD_in hi'] at r3
  exact r3
theorem det_box {φ φ':Nat→Value} {S S':Nat→Prop} {M M':Mem} {w:World} {u:Value} {x y:Bool} (h:(Ob.box [.b (.val (.bool x))]).rel φ S M w u) (k:(Ob.box [.b (.val (.bool y))]).rel φ' S' M' w u):x=y:=by
  obtain ⟨g,arr,t,e1,h1,h2,_⟩:=h
  obtain ⟨g',arr',t',e2,k1,k2,_⟩:=k
  rw [e1] at e2
  injection e2 with e2
  injection e2 with e2
  injection e2 with e2
  subst e2
  rw [h1] at k1
  injection k1 with k1
  injection k1 with k1
  subst k1
  have l1:arr.toList.length=1:=h2.1
  have p:=h2.2 0 (by simp) (by omega)
  have q:=k2.2 0 (by simp) (by omega)
  have p':arr.toList[0] = .bool x:=p
  have q':arr.toList[0] = .bool y:=q
  rw [p'] at q'
  injection q'
theorem four_rel (E:List (List Int)) (x:Fin E.length) (φ:Nat→Value) (M:Mem):(fourE (E.getD x.1 [])).rel φ M (.agg #[.int .i64 ((E.getD x.1 []).getD 0 0),.int .i64 ((E.getD x.1 []).getD 1 0),.int .i64 ((E.getD x.1 []).getD 2 0),.int .i64 ((E.getD x.1 []).getD 3 0)]) :=
  ⟨[_,_,_,_],rfl,rfl,fun j hj hj'=>by match j,hj with | 0,_=>rfl | 1,_=>rfl | 2,_=>rfl | 3,_=>rfl⟩
theorem ends_mk {p:Prop} (h:ends .ret p):p:=h
/-- the rounds of impl.longest -/
abbrev lgN (wt:List Int→Int) (E:List (List Int)) (n t:Nat):BF:=rnd (rxR wt E.reverse) n t
theorem edIn_rev {E:List (List Int)} {n:Nat} (h:edIn E n):edIn E.reverse n:=fun e he=>h e (List.mem_reverse.1 he)
set_option maxHeartbeats 4000000 in
theorem longest_y {E:List (List Int)} {n:Nat} {wt:List Int→Int} (hE:EgI E n) {f:Nat} {a b:Int} (hw:∀ k,k<E.length→Does Tryz.prog f [fourE (E.getD k []),.lf (.ip [.val (.int .i64 a),.val (.int .i64 b)] 0)] (.imm (.int (wt (E.getD k [])))))
    (hW:∀ e∈E,-1000000000000≤wt e∧wt e≤100000000000) {t0:Nat} (hT:EndsAt (rxR wt E.reverse) n t0):DoesH Tryz.prog 112 [.int n,.sl (.k 4 E),.lf (.b (.fn f [[a,b]]))] [] [] (.tup [.one (.own 0),.one (.b (.val (.bool true)))]) [.row 3 (.ints (lgN wt E n (t0+1)).num)]:=by
  have hnl:=hE.nle
  have hEl:=hE.len
  have hbi:=fun t=>rnd_bi (fun s t=>BI.gs (edIn_rev hE.ed) (wt:=wt)) t
  have hbd:=rndx_bd (W:=100000000000) (edIn_rev hE.ed) (by omega) fun e he=>(hW e (List.mem_reverse.1 he)).2
  refine spec_hL Tryz.func112 rfl Tryz.ntmps112 cfOK (fun _ _=>by kernel_rfl) rfl rfl rfl ?_
  intro M0 w0 S φ0
  rw [Tryz.results112]
  refine awpL_seq (awpL_of fun _ _ _ _ _ => ?_)
  refine amGo ?_
  try simp only [thenQ]
  refine awpL_seq (awpL_of fun _ _ _ _ _ => ?_)
  refine amGo ?_
  refine awpL_seq (awpL_seq (awpL_of fun _ _ _ _ _ => ?_))
  refine amGo ?_
  refine awpL_block (awpL_rounds (α:=Nat) (fun t=>[(17,true,.int t)]) [0,1,5,8,16] (fun t=>[.box [.b (.fn f [[a,b]])],.row 3 (.ints (lgN wt E n t).num),.box [.own 1]]) (fun t=>t≤t0) (fun t=>n+1-t) 0 (by ((try simp only [xk]);(repeat (refine leK_cons ?_ ?_;first | (exact amE) | rotate_left));(refine leK_nil ?_;exact (by rfl));(all_goals (try (simp only [xr,simprocAttr];try refine int_eq1 ?_))))) (Nat.zero_le _) fun t ht => ?_)
  have hb:=hbi t
  have hb0:(t:Int)*(E.length*100000000000)≤601*(2400*100000000000):=Int.mul_le_mul (by have:=hT.1;omega) (by omega) (by omega) (by omega)
  have ht0:=hT.1
  have hnl1:=hb.bl.num
  simp only [xr,simprocAttr]
  refine awpL_seq (awpL_of fun _ _ _ _ _ => ?_)
  refine amGo ?_
  refine awpL_seq (awpL_cond rfl (fun _=>awpL_of fun _ _ _ _ _=>awp_skip ?_) fun hf=>absurd (of_decide_eq_false hf) (by omega))
  refine awpL_seq (awpL_block (awpL_seq (awpL_of fun _ _ _ _ _ => ?_)))
  refine amGo ?_
  refine awpL_seq (awpL_seq (awpL_of fun _ _ _ _ _ => ?_))
  refine amGo ?_
  ((try refine Or.inl ?_);refine ⟨_,(backward_d E),amF,?_⟩;refine amC ?_)
  refine amGo ?_
  refine awpL_block ?_
  refine awpL_range (backward_s E (by omega)) rfl rfl (fun x => .int (x.1:Int)) (fun x=>fourE (E.getD x.1 [])) (fun x φ M=>⟨_,_,rfl,rfl,four_rel E x φ M⟩) (fun x n=>⟨free_lt rfl _,free_lt rfl _⟩) (fun pre=>[.box [.b (.fn f [[a,b]])],.row 3 (.ints (lgF wt E (lgN wt E n t).num pre).1),.box [.own 1],.box [.b (.val (.bool (lgF wt E (lgN wt E n t).num pre).2))]]) (fun x=>[.box [.b (.val (.int .i64 ((E.getD x.1 []).getD 0 0))),.b (.val (.int .i64 ((E.getD x.1 []).getD 1 0))),.b (.val (.int .i64 ((E.getD x.1 []).getD 2 0))),.b (.val (.int .i64 ((E.getD x.1 []).getD 3 0)))]]) (fun x=>tab [(11,true,.lf (.ptr 4 0)),(9,true,.lf (.ptr 3 0)),(8,true,.lf (.ptr 2 0)),(5,true,.lf (.ptr 0 0))]) rfl (fun _=>rfl) (fun _=>rfl) ?wf (fun _=>rfl) ?det (by decide) (by decide) ?hA ?hB ?_
  case wf =>
    intro pre i o hi
    match i,hi with
    | 0,h=>cases h;exact Ob.ltB_lt rfl
    | 1,h=>cases h;exact Ob.ltB_lt rfl
    | 2,h=>cases h;exact Ob.ltB_lt rfl
    | 3,h=>cases h;exact Ob.ltB_lt rfl
  case det =>
    intro pre pre' h
    obtain ⟨_,_,_,_,_,_,_,_,h1,h2⟩:=h 1 _ _ rfl rfl
    obtain ⟨_,_,_,_,_,_,_,_,h3,h4⟩:=h 3 _ _ rfl rfl
    simp only [det_row h1 h2,det_box h3 h4]
  case hA =>
    intro b' l pre x hfx
    refine awpI_reg ?_
    simp only [xr,simprocAttr]
    refine ⟨by decide,by decide,leT.le (n:=5) (by rw [hfx];exact Nat.le_of_ble_eq_true rfl) (leT_of ?_ rfl rfl rfl)⟩
    ((try simp only [xk]);(repeat (refine leK_cons ?_ ?_;first | (exact amE) | rotate_left));(try exact leK_nil rfl);(all_goals (try (simp only [xr,simprocAttr];try refine int_eq1 ?_))))
  case hB =>
    intro b' l pre x hpre hfx
    have hpre:pre.length<E.length:=by rw [dsc_len] at hpre;exact hpre
    have hm:=getD_mem x.2
    have he:=hE.at_ _ hm
    have hwe:=hW _ hm
    have hlen:(lgF wt E (lgN wt E n t).num pre).1.length=n:=by rw [lgF_len];exact hnl1
    have hsn:=lgF_snoc (wt:=wt) (E:=E) (o:=(lgN wt E n t).num) (pre:=pre) (x:=x)
    have hbp:((pre.length:Nat):Int)*100000000000≤2400*100000000000:=by omega
    have hv:=lgF_bd (wt:=wt) (E:=E) (W:=100000000000) (B:=144240000000000000) (by omega) (fun e he=>(hW e he).2) (o:=(lgN wt E n t).num) (fun v=>⟨hb.nn v,by have:=hbd t v;rw [List.length_reverse] at this;exact Int.le_trans this (by omega)⟩) pre
    generalize lgF wt E (lgN wt E n t).num pre=S at *
    have hv1:=hv (eto (E.getD x.1 []))
    have hv2:=hv (efr (E.getD x.1 []))
    unfold eto at hv1
    unfold efr at hv2
    refine awpI_block (awpI_seq (awpI_any (by kernel_rfl) (by kernel_rfl) ?_))
    simp only [xr,simprocAttr]
    refine amS ?_
    ((try refine Or.inl ?_);refine ⟨_,(hw x.1 x.2),.inl rfl,?_⟩;refine amC ?_)
    refine awpI_seq (awpI_reg ?_)
    simp only [xr,simprocAttr]
    refine amS ?_
    refine awpI_cond rfl (fun hc => ?_) (fun hc=>awpI_skip ?_)
    · have hc:=of_decide_eq_true hc
      refine awpI_reg ?_
      simp only [xr,simprocAttr]
      refine amS ?_
      rw [hsn,show lg1 wt S (E.getD x.1 [])=(S.1.set (efr (E.getD x.1 [])) (wt (E.getD x.1 [])+S.1.getD (eto (E.getD x.1 [])) 0),true) from if_pos hc]
      rfl
    · have hc:=of_decide_eq_false hc
      refine ⟨rfl,?_⟩
      rw [hsn,show lg1 wt S (E.getD x.1 [])=S from if_neg hc]
      rfl
  rw [lg_all,show rxR wt E.reverse (lgN wt E n t)=lgN wt E n (t+1) from rfl]
  refine awpL_seq (awpL_of fun _ _ _ _ _ => ?_)
  refine amGo ?_
  refine awpL_cond rfl (fun hc => ?_) (fun hc=>awpL_of fun _ _ _ _ _=>awp_skip ?_)
  · have hc:(lgN wt E n (t+1)).last<0:=by
      have h1:decide (0≤(lgN wt E n (t+1)).last)=false:=by simpa using hc
      have:=of_decide_eq_false h1
      omega
    obtain rfl:t=t0:=by
      rcases Nat.lt_or_ge t t0 with h | h
      · exact absurd hc (hT.2.2 t h)
      · omega
    refine awpL_of fun _ _ _ _ _ => ?_
    refine amGo ?_
    refine And.intro rfl ?_
    refine ends_mk ?_
    (simp only [ends_normal,ends_ret];refine retH_2 (vs:=[_,_]) [1] rfl ⟨rfl,trivial⟩ rfl rfl rfl rfl ⟨rfl,rfl,trivial⟩ ?_;try rfl)
  · have hc:¬ (lgN wt E n (t+1)).last<0:=by
      have h1:decide (0≤(lgN wt E n (t+1)).last)=true:=by simpa using hc
      have:=of_decide_eq_true h1
      omega
    have htt:t≠t0:=fun h=>hc (by rw [h];exact hT.2.1)
    refine awpL_of fun _ _ _ _ _ => ?_
    refine amGo ?_
    refine ⟨t+1,by omega,by omega,.inr ⟨3,Nat.le_of_ble_eq_true rfl,leT_of ?_ rfl rfl rfl⟩⟩
    ((try simp only [xk]);(repeat (refine leK_cons ?_ ?_;first | (exact amE) | rotate_left));(try exact leK_nil rfl);(all_goals (try (simp only [xr,simprocAttr];try refine int_eq1 ?_))))
set_option maxHeartbeats 4000000 in
theorem longest_n {E:List (List Int)} {n:Nat} {wt:List Int→Int} (hE:EgI E n) {f:Nat} {a b:Int} (hw:∀ k,k<E.length→Does Tryz.prog f [fourE (E.getD k []),.lf (.ip [.val (.int .i64 a),.val (.int .i64 b)] 0)] (.imm (.int (wt (E.getD k [])))))
    (hW:∀ e∈E,-1000000000000≤wt e∧wt e≤100000000000) (hT:NeverEnds (rxR wt E.reverse) n):DoesH Tryz.prog 112 [.int n,.sl (.k 4 E),.lf (.b (.fn f [[a,b]]))] [] [] (.tup [.one (.b (.val (.slice none 0 0))),.one (.b (.val (.bool false)))]) []:=by
  have hnl:=hE.nle
  have hEl:=hE.len
  have hbi:=fun t=>rnd_bi (fun s t=>BI.gs (edIn_rev hE.ed) (wt:=wt)) t
  have hbd:=rndx_bd (W:=100000000000) (edIn_rev hE.ed) (by omega) fun e he=>(hW e (List.mem_reverse.1 he)).2
  refine spec_hL Tryz.func112 rfl Tryz.ntmps112 cfOK (fun _ _=>by kernel_rfl) rfl rfl rfl ?_
  intro M0 w0 S φ0
  rw [Tryz.results112]
  refine awpL_seq (awpL_of fun _ _ _ _ _ => ?_)
  refine amGo ?_
  try simp only [thenQ]
  refine awpL_seq (awpL_of fun _ _ _ _ _ => ?_)
  refine amGo ?_
  refine awpL_seq (awpL_seq (awpL_of fun _ _ _ _ _ => ?_))
  refine amGo ?_
  refine awpL_block (awpL_rounds (α:=Nat) (fun t=>[(17,true,.int t)]) [0,1,5,8,16] (fun t=>[.box [.b (.fn f [[a,b]])],.row 3 (.ints (lgN wt E n t).num),.box [.own 1]]) (fun t=>t≤n+1) (fun t=>n+1-t) 0 (by ((try simp only [xk]);(repeat (refine leK_cons ?_ ?_;first | (exact amE) | rotate_left));(refine leK_nil ?_;exact (by rfl));(all_goals (try (simp only [xr,simprocAttr];try refine int_eq1 ?_))))) (Nat.zero_le _) fun t ht => ?_)
  have hb:=hbi t
  have hb0:(t:Int)*(E.length*100000000000)≤601*(2400*100000000000):=Int.mul_le_mul (by omega) (by omega) (by omega) (by omega)
  have hnl1:=hb.bl.num
  simp only [xr,simprocAttr]
  refine awpL_seq (awpL_of fun _ _ _ _ _ => ?_)
  refine amGo ?_
  refine awpL_seq (awpL_cond rfl (fun hlt=>awpL_of fun _ _ _ _ _=>awp_skip ?_) fun hf=>awpL_of fun _ _ _ _ _ => ?_)
  rotate_left
  · refine amGo ?_
    refine awpL_of fun _ _ _ _ _ => ?_
    refine amGo ?_
    refine And.intro rfl ?_
    refine ends_mk ?_
    (simp only [ends_normal,ends_ret];refine retH_2 (vs:=[_,_]) [] rfl trivial rfl rfl rfl rfl ⟨rfl,rfl,trivial⟩ ?_;try rfl)
  have hlt:=of_decide_eq_true hlt
  refine awpL_seq (awpL_block (awpL_seq (awpL_of fun _ _ _ _ _ => ?_)))
  refine amGo ?_
  refine awpL_seq (awpL_seq (awpL_of fun _ _ _ _ _ => ?_))
  refine amGo ?_
  ((try refine Or.inl ?_);refine ⟨_,(backward_d E),amF,?_⟩;refine amC ?_)
  refine amGo ?_
  refine awpL_block ?_
  refine awpL_range (backward_s E (by omega)) rfl rfl (fun x => .int (x.1:Int)) (fun x=>fourE (E.getD x.1 [])) (fun x φ M=>⟨_,_,rfl,rfl,four_rel E x φ M⟩) (fun x n=>⟨free_lt rfl _,free_lt rfl _⟩) (fun pre=>[.box [.b (.fn f [[a,b]])],.row 3 (.ints (lgF wt E (lgN wt E n t).num pre).1),.box [.own 1],.box [.b (.val (.bool (lgF wt E (lgN wt E n t).num pre).2))]]) (fun x=>[.box [.b (.val (.int .i64 ((E.getD x.1 []).getD 0 0))),.b (.val (.int .i64 ((E.getD x.1 []).getD 1 0))),.b (.val (.int .i64 ((E.getD x.1 []).getD 2 0))),.b (.val (.int .i64 ((E.getD x.1 []).getD 3 0)))]]) (fun x=>tab [(11,true,.lf (.ptr 4 0)),(9,true,.lf (.ptr 3 0)),(8,true,.lf (.ptr 2 0)),(5,true,.lf (.ptr 0 0))]) rfl (fun _=>rfl) (fun _=>rfl) ?wf (fun _=>rfl) ?det (by decide) (by decide) ?hA ?hB ?_
  case wf =>
    intro pre i o hi
    match i,hi with
    | 0,h=>cases h;exact Ob.ltB_lt rfl
    | 1,h=>cases h;exact Ob.ltB_lt rfl
    | 2,h=>cases h;exact Ob.ltB_lt rfl
    | 3,h=>cases h;exact Ob.ltB_lt rfl
  case det =>
    intro pre pre' h
    obtain ⟨_,_,_,_,_,_,_,_,h1,h2⟩:=h 1 _ _ rfl rfl
    obtain ⟨_,_,_,_,_,_,_,_,h3,h4⟩:=h 3 _ _ rfl rfl
    simp only [det_row h1 h2,det_box h3 h4]
  case hA =>
    intro b' l pre x hfx
    refine awpI_reg ?_
    simp only [xr,simprocAttr]
    refine ⟨by decide,by decide,leT.le (n:=5) (by rw [hfx];exact Nat.le_of_ble_eq_true rfl) (leT_of ?_ rfl rfl rfl)⟩
    ((try simp only [xk]);(repeat (refine leK_cons ?_ ?_;first | (exact amE) | rotate_left));(try exact leK_nil rfl);(all_goals (try (simp only [xr,simprocAttr];try refine int_eq1 ?_))))
  case hB =>
    intro b' l pre x hpre hfx
    have hpre:pre.length<E.length:=by rw [dsc_len] at hpre;exact hpre
    have hm:=getD_mem x.2
    have he:=hE.at_ _ hm
    have hwe:=hW _ hm
    have hlen:(lgF wt E (lgN wt E n t).num pre).1.length=n:=by rw [lgF_len];exact hnl1
    have hsn:=lgF_snoc (wt:=wt) (E:=E) (o:=(lgN wt E n t).num) (pre:=pre) (x:=x)
    have hbp:((pre.length:Nat):Int)*100000000000≤2400*100000000000:=by omega
    have hv:=lgF_bd (wt:=wt) (E:=E) (W:=100000000000) (B:=144240000000000000) (by omega) (fun e he=>(hW e he).2) (o:=(lgN wt E n t).num) (fun v=>⟨hb.nn v,by have:=hbd t v;rw [List.length_reverse] at this;exact Int.le_trans this (by omega)⟩) pre
    generalize lgF wt E (lgN wt E n t).num pre=S at *
    have hv1:=hv (eto (E.getD x.1 []))
    have hv2:=hv (efr (E.getD x.1 []))
    unfold eto at hv1
    unfold efr at hv2
    refine awpI_block (awpI_seq (awpI_any (by kernel_rfl) (by kernel_rfl) ?_))
    simp only [xr,simprocAttr]
    refine amS ?_
    ((try refine Or.inl ?_);refine ⟨_,(hw x.1 x.2),.inl rfl,?_⟩;refine amC ?_)
    refine awpI_seq (awpI_reg ?_)
    simp only [xr,simprocAttr]
    refine amS ?_
    refine awpI_cond rfl (fun hc => ?_) (fun hc=>awpI_skip ?_)
    · have hc:=of_decide_eq_true hc
      refine awpI_reg ?_
      simp only [xr,simprocAttr]
      refine amS ?_
      rw [hsn,show lg1 wt S (E.getD x.1 [])=(S.1.set (efr (E.getD x.1 [])) (wt (E.getD x.1 [])+S.1.getD (eto (E.getD x.1 [])) 0),true) from if_pos hc]
      rfl
    · have hc:=of_decide_eq_false hc
      refine ⟨rfl,?_⟩
      rw [hsn,show lg1 wt S (E.getD x.1 [])=S from if_neg hc]
      rfl
  rw [lg_all,show rxR wt E.reverse (lgN wt E n t)=lgN wt E n (t+1) from rfl]
  refine awpL_seq (awpL_of fun _ _ _ _ _ => ?_)
  refine amGo ?_
  refine awpL_cond rfl (fun hc => ?_) (fun hc=>awpL_of fun _ _ _ _ _=>awp_skip ?_)
  · have hc:(lgN wt E n (t+1)).last<0:=by
      have h1:decide (0≤(lgN wt E n (t+1)).last)=false:=by simpa using hc
      have:=of_decide_eq_false h1
      omega
    exact absurd hc (hT t (by omega))
  · have hc:¬ (lgN wt E n (t+1)).last<0:=by
      have h1:decide (0≤(lgN wt E n (t+1)).last)=true:=by simpa using hc
      have:=of_decide_eq_true h1
      omega
    refine awpL_of fun _ _ _ _ _ => ?_
    refine amGo ?_
    refine ⟨t+1,by omega,by omega,.inr ⟨3,Nat.le_of_ble_eq_true rfl,leT_of ?_ rfl rfl rfl⟩⟩
    ((try simp only [xk]);(repeat (refine leK_cons ?_ ?_;first | (exact amE) | rotate_left));(try exact leK_nil rfl);(all_goals (try (simp only [xr,simprocAttr];try refine int_eq1 ?_))))
end Go.Proofs.YtlhdeofkhajigaaGreat
/- Potentials, on the machine: the program's. Conditions: those of a whole graph of pairs. -/
set_option linter.all false
set_option linter.unusedSimpArgs false
set_option linter.unusedVariables false
namespace Go.Proofs.YtlhdeofkhajigaaGreat
open Am Go Go.RowKit

/-- the least potential, if there is one -/
def PotR (E:List (List Int)) (wt:List Int→Int) (n:Nat) (R:BF→BF) (r:Option (List Int)):Prop:=(∃ t,EndsAt R n t∧r=some (rnd R n (t+1)).num)∨(NeverEnds R n∧r=none)
theorem potR_ex (E:List (List Int)) (wt:List Int→Int) (n:Nat) (R:BF→BF):∃ r,PotR E wt n R r:=by
  rcases ends_or R n with ⟨t,ht⟩ | h
  · exact ⟨_,.inl ⟨t,ht,rfl⟩⟩
  · exact ⟨_,.inr ⟨h,rfl⟩⟩
theorem PotE.rev {E:List (List Int)} {wt:List Int→Int} {L:Nat→Int}:PotE E.reverse wt L↔PotE E wt L:=⟨fun h e he=>h e (List.mem_reverse.2 he),fun h e he=>h e (List.mem_reverse.1 he)⟩
theorem never_pot {E:List (List Int)} {wt:List Int→Int} {n:Nat} {R:BF→BF} (hE:edIn E n) (hR:∀ s t,BI E wt n s t→BI E wt n (R s) (t+1)) (h:NeverEnds R n) {L:Nat→Int} (hL:PotE E wt L):False:=by
  obtain ⟨v,h1,h2,h3,p,hp⟩:=h.cyc hE hR
  have:=hL.closed hp.wk
  have:=hp.gain
  omega
theorem ends_least {E:List (List Int)} {wt:List Int→Int} {n t:Nat} {R:BF→BF} (hR:∀ s t,BI E wt n s t→BI E wt n (R s) (t+1)) (h:EndsAt R n t):PotE E wt (nbN (rnd R n (t+1)))∧(∀ v,0≤nbN (rnd R n (t+1)) v)∧(∀ L,PotE E wt L→(∀ v,0≤L v)→∀ v,nbN (rnd R n (t+1)) v≤L v)∧(rnd R n (t+1)).num.length=n :=
  ⟨h.pot hR,(rnd_bi hR _).nn,(rnd_bi hR _).le,(rnd_bi hR _).bl.num⟩
/-- the program's rounds and the reference's come to the same -/
theorem pot_eq {E:List (List Int)} {wt:List Int→Int} {n:Nat} (hE:edIn E n) {r r':Option (List Int)} (h:PotR E wt n (rxR wt E.reverse) r) (k:PotR E wt n (jxR wt E) r'):r=r':=by
  have hR:=fun s t=>BI.gs (edIn_rev hE) (wt:=wt) (s:=s) (t:=t)
  have hJ:=fun s t=>BI.jac hE (wt:=wt) (s:=s) (t:=t)
  rcases h with ⟨t,h1,rfl⟩ | ⟨h1,rfl⟩
  · obtain ⟨a1,a2,a3,a4⟩:=ends_least hR h1
    rcases k with ⟨t',k1,rfl⟩ | ⟨k1,rfl⟩
    · obtain ⟨b1,b2,b3,b4⟩:=ends_least hJ k1
      congr 1
      refine List.ext_getElem (by omega) fun i hi hi' => ?_
      have q1:=a3 _ (PotE.rev.2 b1) b2 i
      have q2:=b3 _ (PotE.rev.1 a1) a2 i
      unfold nbN at q1 q2
      rw [getD_in hi,getD_in hi'] at q1
      rw [getD_in hi,getD_in hi'] at q2
      omega
    · exact (never_pot hE hJ k1 (PotE.rev.1 a1)).elim
  · rcases k with ⟨t',k1,rfl⟩ | ⟨k1,rfl⟩
    · exact (never_pot (edIn_rev hE) hR h1 (PotE.rev.2 (ends_least hJ k1).1)).elim
    · rfl
theorem fn_of_clo {f:Nat} {a b:Int} {φ:Nat→Value} {M:Mem} {u:Value} (h:(AV.clo f [.ip [.val (.int .i64 a),.val (.int .i64 b)] 0]).rel φ M u):(AV.lf (.b (.fn f [[a,b]]))).rel φ M u:=by
  obtain ⟨us,e,hl,h⟩:=h
  refine ⟨us,e,by simpa using hl,fun j hj hj' => ?_⟩
  have hj0:j=0:=by simp at hj;omega
  subst hj0
  obtain ⟨ad,e1,hc⟩:=h 0 (by simp) hj'
  refine ⟨ad,?_,fun t ht => ?_⟩
  · rw [e1]
    show Value.pointer (some (ad.add 0))=_
    rw [show ad.add 0=ad by unfold Addr.add;simp]
  · match t,ht with
    | 0,_=>obtain ⟨u,h1,h2⟩:=hc 0 (by simp);rw [h1,show u=_ from h2];rfl
    | 1,_=>obtain ⟨u,h1,h2⟩:=hc 1 (by simp);rw [h1,show u=_ from h2];rfl
theorem fn_args {f:Nat} {a b n:Int} {E:List (List Int)} (φ:Nat→Value) (M:Mem) (us:List Value) (h:AsRel φ M [.int n,.sl (.k 4 E),.clo f [.ip [.val (.int .i64 a),.val (.int .i64 b)] 0]] us):AsRel φ M [.int n,.sl (.k 4 E),.lf (.b (.fn f [[a,b]]))] us :=
  ⟨h.1,fun j hj hj'=>by
    match j,hj with
    | 0,_=>exact h.2 0 (by simp) hj'
    | 1,_=>exact h.2 1 (by simp) hj'
    | 2,_=>exact fn_of_clo (h.2 2 (by simp) hj')⟩
theorem potW_d (e:List Int) (a b:Int) (h:0≤b*e.getD 2 0∧b*e.getD 2 0≤11900000000∧0≤a*e.getD 3 0∧a*e.getD 3 0≤11900000000):Does Tryz.prog 113 [fourE e,.lf (.ip [.val (.int .i64 a),.val (.int .i64 b)] 0)] (.imm (.int (wtR a b e))):=by
  obtain ⟨h1,h2,h3,h4⟩:=h
  refine spec_imm Tryz.func113 rfl Tryz.ntmps113 cfOK (fun _ _=>by kernel_rfl) rfl (Nat.le_of_ble_eq_true rfl) ?_
  intro M0 w0
  rw [Tryz.results113]
  refine amGo ?_
  ((try refine Or.inl ?_);refine ⟨_,(gain_d e (a,b) h1 (by show b*e.getD 2 0≤_;omega) h3 (by show a*e.getD 3 0≤_;omega)),.inl rfl,?_⟩;refine amC ?_)
  refine amGo ?_
  (simp only [xe,simprocAttr];refine ⟨_,rfl,rfl,Imp.eq ?_⟩)
  rfl
set_option maxHeartbeats 2000000 in
theorem potential_y {L E:List (List Int)} {n K:Nat} (hnl:L.length=n) (hE:EgI E n) (hc:∀ e∈E,0≤e.getD 2 0∧e.getD 2 0≤119∧0≤e.getD 3 0∧e.getD 3 0≤119) {a:Int×Int} (ha:ratioB a=true) {t:Nat} (hT:EndsAt (rxR (wtR a.1 a.2) E.reverse) n t) :
    DoesH Tryz.prog 63 [prX L E K,frA a] [] [] (.tup [.one (.own 0),.one (.b (.val (.bool true)))]) [.row 3 (.ints (lgN (wtR a.1 a.2) E n (t+1)).num)]:=by
  obtain ⟨h1,h2,h3,h4⟩:=ratio_ok ha
  have hW:=wt_bd hc (a:=a.1) (b:=a.2) h1 h2 (by omega) (by omega)
  have hl:=(longest_y hE (fun k hk=>potW_d (E.getD k []) a.1 a.2 (hW _ (getD_mem hk)).1) (fun e he=>by have:=(hW e he).2;omega) hT).args fn_args
  subst hnl
  obtain ⟨a,b⟩:=a
  refine spec_hB Tryz.func63 rfl Tryz.ntmps63 cfOK (fun _ _=>by kernel_rfl) rfl rfl rfl ?_
  intro M0 w0 S φ0
  rw [Tryz.results63]
  refine amG1 ?_
  (refine amB ?_;refine awp_anyG 1 [(10,[1])] [1] [(10,[]),(11,[]),(13,[])] ?_;refine amNG ?_)
  (refine .inr (.inl ⟨_,_,callG_b (hl) rfl rfl rfl rfl rfl rfl,?_⟩);refine amTG ?_)
  simp only [xm,simprocAttr]
  refine amSG ?_
  refine amGo ?_
  (simp only [ends_normal,ends_ret];refine retH_2 (vs:=[_,_]) [1] rfl ⟨rfl,trivial⟩ rfl rfl rfl rfl ⟨rfl,rfl,trivial⟩ ?_;try rfl)
set_option maxHeartbeats 2000000 in
theorem potential_n {L E:List (List Int)} {n K:Nat} (hnl:L.length=n) (hE:EgI E n) (hc:∀ e∈E,0≤e.getD 2 0∧e.getD 2 0≤119∧0≤e.getD 3 0∧e.getD 3 0≤119) {a:Int×Int} (ha:ratioB a=true) (hT:NeverEnds (rxR (wtR a.1 a.2) E.reverse) n) :
    Does Tryz.prog 63 [prX L E K,frA a] (.imm (.tup [.one (.b (.val (.slice none 0 0))),.one (.b (.val (.bool false)))])):=by
  obtain ⟨h1,h2,h3,h4⟩:=ratio_ok ha
  have hW:=wt_bd hc (a:=a.1) (b:=a.2) h1 h2 (by omega) (by omega)
  have hl:Does Tryz.prog 112 _ (.imm (.tup [.one (.b (.val (.slice none 0 0))),.one (.b (.val (.bool false)))])):=imm_of ((longest_n hE (fun k hk=>potW_d (E.getD k []) a.1 a.2 (hW _ (getD_mem hk)).1) (fun e he=>by have:=(hW e he).2;omega) hT).args fn_args)
  subst hnl
  obtain ⟨a,b⟩:=a
  refine spec_imm Tryz.func63 rfl Tryz.ntmps63 cfOK (fun _ _=>by kernel_rfl) rfl (Nat.le_of_ble_eq_true rfl) ?_
  intro M0 w0
  rw [Tryz.results63]
  refine amGo ?_
  ((try refine Or.inl ?_);refine ⟨_,(hl),.inl rfl,?_⟩;refine amC ?_)
  refine amGo ?_
  (simp only [xe,simprocAttr];refine ⟨[_,_],⟨rfl,rfl,trivial⟩,rfl,Imp.eq ?_⟩)
  rfl
end Go.Proofs.YtlhdeofkhajigaaGreat
/- FindPotential, on the machine: the program's and the reference's, as the law wants them. Conditions: none. -/
set_option linter.all false
set_option linter.unusedSimpArgs false
set_option linter.unusedVariables false
namespace Go.Proofs.YtlhdeofkhajigaaGreat
open Go Go.RowKit Am

noncomputable def potT (E:List (List Int)) (a:Int×Int) (n:Nat):Option (List Int) := @Classical.epsilon _ ⟨none⟩ fun r=>PotR E (wtR a.1 a.2) n (jxR (wtR a.1 a.2) E) r
theorem potT_ok (E:List (List Int)) (a:Int×Int) (n:Nat):PotR E (wtR a.1 a.2) n (jxR (wtR a.1 a.2) E) (potT E a n):=Classical.epsilon_spec (p:=fun r=>PotR E (wtR a.1 a.2) n (jxR (wtR a.1 a.2) E) r) (potR_ex _ _ _ _)
noncomputable def ptO (m s nx:List (List Int)) (x:Int) (a:Int×Int):Option (List Int):=bif (prQ m s nx x).2 || !ratioB a then none else potT (egs (prQ m s nx x).1.rows) a (prQ m s nx x).1.list.length
def ptV:Option (List Int)→AV
  | none => .tup [.one (.b (.sl (.ints []))),.one (.b (.val (.bool false)))]
  | some w => .tup [.one (.b (.sl (.ints w))),.one (.b (.val (.bool true)))]
set_option maxHeartbeats 4000000 in
theorem spec_FindPotential_v (m s nx:List (List Int)) (x:Int) (a:Int×Int):Does Tryz.prog 23 [prA m s,.sl (.ii nx),.int x,frA a] (.imm (ptV (ptO m s nx x a))):=by
  have hG:=l9Get_d m s nx x
  cases hk:(takesB m s x [] && algB m s nx)
  · rw [hk,prQ_bad hk] at hG
    have hG:Does Tryz.prog 49 [prA m s,.sl (.ii nx),.int x] (.imm (.tup [.agg [.b (.val (.slice none 0 0)),.b (.val (.slice none 0 0)),.b (.val (.bool false))],.one (.b (.val (.bool false)))])):=hG
    have hcy:ptO m s nx x a=none:=by unfold ptO;rw [prQ_bad hk];rfl
    rw [hcy]
    refine spec_imm Tryz.func23 rfl Tryz.ntmps23 cfOK (fun _ _=>by kernel_rfl) rfl (Nat.le_of_ble_eq_true rfl) ?_
    intro M0 w0
    rw [Tryz.results23]
    refine amGo ?_
    ((try refine Or.inl ?_);refine ⟨_,(hG),amF,?_⟩;refine amC ?_)
    refine amGo ?_
    refine .inl ⟨AV.bool false,.inl rfl,?_⟩
    simp only [xr,simprocAttr]
    refine amGo ?_
    refine awp_cond amQ (fun hr => ?_) (fun hr => ?_)
    · refine amGoR ?_
      (refine awp_frz 3 rfl ?_;simp only [xz,simprocAttr])
      refine amGo ?_
      (simp only [xe,simprocAttr];refine ⟨[_,_],⟨rfl,rfl,trivial⟩,rfl,Imp.eq ?_⟩)
      rfl
    · simp at hr
  · rw [hk] at hG
    cases hq:(prQ m s nx x).2
    · have hF:=prQ_full hq
      have hG:Does Tryz.prog 49 [prA m s,.sl (.ii nx),.int x] (.imm (.tup [.agg [.b (.sl (.k 2 (prQ m s nx x).1.list)),.b (.sl (.ki 3 (eg3 (prQ m s nx x).1.rows))),.b (.val (.bool false))],.one (.b (.val (.bool true)))])):=by
        have hG2:=hG
        unfold prAv at hG2
        rw [hq] at hG2
        exact hG2
      have hcy:ptO m s nx x a=bif !ratioB a then none else potT (egs (prQ m s nx x).1.rows) a (prQ m s nx x).1.list.length:=by unfold ptO;rw [hq];rfl
      rw [hcy]
      generalize (prQ m s nx x).1=g at hG hF
      refine spec_imm Tryz.func23 rfl Tryz.ntmps23 cfOK (fun _ _=>by kernel_rfl) rfl (Nat.le_of_ble_eq_true rfl) ?_
      intro M0 w0
      rw [Tryz.results23]
      refine amGo ?_
      ((try refine Or.inl ?_);refine ⟨_,(hG),amF,?_⟩;refine amC ?_)
      refine amGo ?_
      ((try refine Or.inl ?_);refine ⟨_,(l9Ratio_d a),.inl rfl,?_⟩;refine amC ?_)
      refine amGo ?_
      cases hra:ratioB a
      · refine awp_cond amQ (fun hr => ?_) (fun hr => ?_)
        · refine amGoR ?_
          (refine awp_frz 3 rfl ?_;simp only [xz,simprocAttr])
          refine amGo ?_
          (simp only [xe,simprocAttr];refine ⟨[_,_],⟨rfl,rfl,trivial⟩,rfl,Imp.eq ?_⟩)
          rfl
        · simp at hr
      refine awp_cond amQ (fun hr => ?_) (fun hr => ?_)
      · simp at hr
      have hT:=potT_ok (egs g.rows) a g.list.length
      rcases hT with ⟨t,h1,h2⟩ | ⟨h1,h2⟩
      · rw [show (bif !true then none else potT (egs g.rows) a g.list.length)=potT (egs g.rows) a g.list.length from rfl,h2]
        have hl:=l9Rise_d hF hra (.inl ⟨t,h1,rfl⟩)
        have hlast:=h1.2.1
        generalize rnd (jxR (wtR a.1 a.2) (egs g.rows)) g.list.length (t+1)=S at hl hlast
        refine amGo ?_
        ((try refine Or.inl ?_);refine ⟨_,(hl),amF,?_⟩;refine amC ?_)
        refine amGo ?_
        refine awp_cond amQ (fun hz => ?_) (fun hz => ?_)
        · have hz:=of_decide_eq_true hz
          omega
        refine amGo ?_
        (simp only [xe,simprocAttr];refine ⟨[_,_],⟨rfl,rfl,trivial⟩,rfl,Imp.eq ?_⟩)
        rfl
      · rw [show (bif !true then none else potT (egs g.rows) a g.list.length)=potT (egs g.rows) a g.list.length from rfl,h2]
        have hl:=l9Rise_d hF hra (.inr ⟨h1,rfl⟩)
        have hlast:=h1 _ (Nat.le_refl _)
        generalize rnd (jxR (wtR a.1 a.2) (egs g.rows)) g.list.length (g.list.length+1)=S at hl hlast
        refine amGo ?_
        ((try refine Or.inl ?_);refine ⟨_,(hl),amF,?_⟩;refine amC ?_)
        refine amGo ?_
        refine awp_cond amQ (fun hz => ?_) (fun hz => ?_)
        · refine amGoR ?_
          (refine awp_frz 4 rfl ?_;simp only [xz,simprocAttr])
          refine amGo ?_
          (simp only [xe,simprocAttr];refine ⟨[_,_],⟨rfl,rfl,trivial⟩,rfl,Imp.eq ?_⟩)
          rfl
        · have hz:=of_decide_eq_false hz
          omega
    · have hG:Does Tryz.prog 49 [prA m s,.sl (.ii nx),.int x] (.imm (.tup [.agg [.b (.sl (.k 2 (prQ m s nx x).1.list)),.b (.sl (.ki 3 (eg3 (prQ m s nx x).1.rows))),.b (.val (.bool true))],.one (.b (.val (.bool false)))])):=by
        have hG2:=hG
        unfold prAv at hG2
        rw [hq] at hG2
        exact hG2
      have hcy:ptO m s nx x a=none:=by unfold ptO;rw [hq];rfl
      rw [hcy]
      refine spec_imm Tryz.func23 rfl Tryz.ntmps23 cfOK (fun _ _=>by kernel_rfl) rfl (Nat.le_of_ble_eq_true rfl) ?_
      intro M0 w0
      rw [Tryz.results23]
      refine amGo ?_
      ((try refine Or.inl ?_);refine ⟨_,(hG),amF,?_⟩;refine amC ?_)
      refine amGo ?_
      refine .inl ⟨AV.bool false,.inl rfl,?_⟩
      simp only [xr,simprocAttr]
      refine amGo ?_
      refine awp_cond amQ (fun hr => ?_) (fun hr => ?_)
      · refine amGoR ?_
        (refine awp_frz 3 rfl ?_;simp only [xz,simprocAttr])
        refine amGo ?_
        (simp only [xe,simprocAttr];refine ⟨[_,_],⟨rfl,rfl,trivial⟩,rfl,Imp.eq ?_⟩)
        rfl
      · simp at hr
def ptR:Option (List Int)→AV
  | none => .tup [.one (.b (.val (.slice none 0 0))),.one (.b (.val (.bool false)))]
  | some _ => .tup [.one (.own 0),.one (.b (.val (.bool true)))]
def ptH (e:Nat):Option (List Int)→List Ob
  | none=>[]
  | some w=>[.row e (.ints w)]
set_option maxHeartbeats 4000000 in
theorem impl_FindPotential_v (m s nx:List (List Int)) (x:Int) (a:Int×Int):DoesH Tryz.prog 22 [prA m s,.sl (.ii nx),.int x,frA a] [] [] (ptR (ptO m s nx x a)) (ptH 3 (ptO m s nx x a)):=by
  have hP:=pairsOf_h m s nx x
  cases hq:(prQ m s nx x).2
  · have hF:=prQ_full hq
    rw [show prR (prQ m s nx x) = .tup [.one (.ptr 0 0),.one (.b (.val (.bool true)))] by unfold prR;rw [hq];rfl,show prO s.length (prQ m s nx x)=[.box [.own 1,.own 2,.b (.val (.int .i64 s.length))],.row 36 (.k 2 (prQ m s nx x).1.list),.row 93 (.k 4 (egs (prQ m s nx x).1.rows))] by unfold prO;rw [hq];rfl] at hP
    have hcy:ptO m s nx x a=bif !ratioB a then none else potT (egs (prQ m s nx x).1.rows) a (prQ m s nx x).1.list.length:=by unfold ptO;rw [hq];rfl
    rw [hcy]
    generalize (prQ m s nx x).1=g at hP hF
    cases hra:ratioB a
    · skip
      refine spec_hB Tryz.func22 rfl Tryz.ntmps22 cfOK (fun _ _=>by kernel_rfl) rfl rfl rfl ?_
      intro M0 w0 S φ0
      rw [Tryz.results22]
      refine amGo ?_
      (refine .inr (.inl (callW_a [] (hP) rfl rfl rfl rfl trivial rfl rfl rfl rfl ?_));refine amC ?_)
      refine amGo ?_
      ((try refine Or.inl ?_);refine ⟨_,(isRatio_d a),.inl rfl,?_⟩;refine amC ?_)
      refine amGo ?_
      refine awp_cond amQ (fun hr => ?_) (fun hr => ?_)
      · refine amGo ?_
        (simp only [ends_normal,ends_ret];refine retH_2 (vs:=[_,_]) [] rfl trivial rfl rfl rfl rfl ⟨rfl,rfl,trivial⟩ ?_;try rfl)
      · simp [hra] at hr
    rw [show (bif !true then none else potT (egs g.rows) a g.list.length)=potT (egs g.rows) a g.list.length from rfl]
    obtain ⟨r,hr⟩:=potR_ex (egs g.rows) (wtR a.1 a.2) g.list.length (rxR (wtR a.1 a.2) (egs g.rows).reverse)
    have hre:=pot_eq (eg_I hF).ed hr (potT_ok (egs g.rows) a g.list.length)
    rw [← hre]
    rcases hr with ⟨t,h1,h2⟩ | ⟨h1,h2⟩
    · have hex:=potential_y (L:=g.list) (K:=s.length) rfl (eg_I hF) (eg_c hF) hra h1
      rw [h2]
      refine spec_hB Tryz.func22 rfl Tryz.ntmps22 cfOK (fun _ _=>by kernel_rfl) rfl rfl rfl ?_
      intro M0 w0 S φ0
      rw [Tryz.results22]
      refine amGo ?_
      (refine .inr (.inl (callW_a [] (hP) rfl rfl rfl rfl trivial rfl rfl rfl rfl ?_));refine amC ?_)
      refine amGo ?_
      ((try refine Or.inl ?_);refine ⟨_,(isRatio_d a),.inl rfl,?_⟩;refine amC ?_)
      refine amGo ?_
      refine awp_cond amQ (fun hr => ?_) (fun hr => ?_)
      · simp [hra] at hr
      refine amGo ?_
      (refine .inr (.inl (callW_b (hex) rfl rfl rfl rfl rfl rfl rfl ?_));refine amC ?_)
      refine amGo ?_
      (simp only [ends_normal,ends_ret];refine retH_2 (vs:=[_,_]) [5] rfl ⟨rfl,trivial⟩ rfl rfl rfl rfl ⟨rfl,rfl,trivial⟩ ?_;try rfl)
    · have hex:=potential_n (L:=g.list) (K:=s.length) rfl (eg_I hF) (eg_c hF) hra h1
      rw [h2]
      refine spec_hB Tryz.func22 rfl Tryz.ntmps22 cfOK (fun _ _=>by kernel_rfl) rfl rfl rfl ?_
      intro M0 w0 S φ0
      rw [Tryz.results22]
      refine amGo ?_
      (refine .inr (.inl (callW_a [] (hP) rfl rfl rfl rfl trivial rfl rfl rfl rfl ?_));refine amC ?_)
      refine amGo ?_
      ((try refine Or.inl ?_);refine ⟨_,(isRatio_d a),.inl rfl,?_⟩;refine amC ?_)
      refine amGo ?_
      refine awp_cond amQ (fun hr => ?_) (fun hr => ?_)
      · simp [hra] at hr
      refine amGo ?_
      ((try refine Or.inl ?_);refine ⟨_,(hex),.inl rfl,?_⟩;refine amC ?_)
      refine amGo ?_
      (simp only [ends_normal,ends_ret];refine retH_2 (vs:=[_,_]) [] rfl trivial rfl rfl rfl rfl ⟨rfl,rfl,trivial⟩ ?_;try rfl)
  · rw [show prR (prQ m s nx x) = .tup [.one (.b (.val (.pointer none))),.one (.b (.val (.bool false)))] by unfold prR;rw [hq];rfl,show prO s.length (prQ m s nx x)=[] by unfold prO;rw [hq];rfl] at hP
    have hcy:ptO m s nx x a=none:=by unfold ptO;rw [hq];rfl
    rw [hcy]
    refine spec_hB Tryz.func22 rfl Tryz.ntmps22 cfOK (fun _ _=>by kernel_rfl) rfl rfl rfl ?_
    intro M0 w0 S φ0
    rw [Tryz.results22]
    refine amGo ?_
    (refine .inr (.inl (callW_a [] (hP) rfl rfl rfl rfl trivial rfl rfl rfl rfl ?_));refine amC ?_)
    refine amGo ?_
    refine .inl ⟨AV.bool false,.inl rfl,?_⟩
    simp only [xr,simprocAttr]
    refine amGo ?_
    refine awp_cond amQ (fun hr => ?_) (fun hr => ?_)
    · refine amGo ?_
      (simp only [ends_normal,ends_ret];refine retH_2 (vs:=[_,_]) [] rfl trivial rfl rfl rfl rfl ⟨rfl,rfl,trivial⟩ ?_;try rfl)
    · simp at hr
end Go.Proofs.YtlhdeofkhajigaaGreat
/- FindPotential, as its law wants it. Conditions: none. -/
set_option linter.all false
set_option linter.unusedSimpArgs false
set_option linter.unusedVariables false
namespace Go.Proofs.YtlhdeofkhajigaaGreat
open Go Go.RowKit Am

end Go.Proofs.YtlhdeofkhajigaaGreat
