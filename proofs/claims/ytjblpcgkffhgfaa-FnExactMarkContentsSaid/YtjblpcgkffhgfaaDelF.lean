/- slices.DeleteFunc of numbers: it turns an own row in place. Conditions: a function that hands back a bool for each element and turns nothing that was there. -/
import Derived.Test.YtjblpcgkffhgfaaDel
import Derived.Lib.SliceRun
set_option linter.all false
set_option linter.unusedSimpArgs false
set_option linter.unusedVariables false
namespace Go.Proofs.Ytjblpcgkffhgfaa
open Go Go.RowKit Am

theorem Frm.then_below {lo hi:Nat} {w w' w'':World} (f:Frm lo hi w w') (h:Below w'.heap.size w' w''):Frm lo hi w w'':=⟨h.os.trans f.os,h.tape.trans f.tape,h.output.trans f.output,Nat.le_trans f.size h.size,fun k hk hn=>(h.block k (Nat.lt_of_lt_of_le hk f.size)).trans (f.block k hk hn)⟩
theorem Frm.then {lo hi:Nat} {w w' w'':World} (f:Frm lo hi w w') (h:Frm lo hi w' w''):Frm lo hi w w'':=⟨h.os.trans f.os,h.tape.trans f.tape,h.output.trans f.output,Nat.le_trans f.size h.size,fun k hk hn=>(h.block k (Nat.lt_of_lt_of_le hk f.size) hn).trans (f.block k hk hn)⟩
set_option maxRecDepth 20000 in
set_option maxHeartbeats 2000000 in
theorem deleteFunc_at (W:World) (g cap:Nat) (xs:List Int) (K:FuncId) (lb:Array Value) (p:Int→Bool) (hn:xs.length≤1048576) (hK:Enters Try.prog K) (hO:OwI W g (g+1) (.slice (some ⟨g,0,none⟩) xs.length cap) xs)
    (hf:∀ W',Frm g (g+1) W W'→∀ (j:Nat) (hj:j<xs.length),Calls Try.prog K (#[.int .i64 xs[j]]++lb) W' fun e W''=>e = .returned (.bool (p xs[j]))∧Below W'.heap.size W' W'') :
    Calls Try.prog 48 #[.slice (some ⟨g,0,none⟩) xs.length cap,.func (.func K) #[] lb] W fun e W'=>∃ zs:List Int,zs.length=xs.length∧zs.take (xs.filter fun x => !p x).length=(xs.filter fun x => !p x)∧e = .returned (.slice (some ⟨g,0,none⟩) (xs.filter fun x => !p x).length cap) ∧
      OwI W' g (g+1) (.slice (some ⟨g,0,none⟩) zs.length cap) zs∧Frm g (g+1) W W':=by
  have hcap:xs.length≤cap∧cap≤maxLen:=by
    obtain ⟨⟨_,h⟩,_⟩:=hO
    rcases h with ⟨h,_⟩ | ⟨g',cap',cur,h1,_,_,h3,h4,_⟩
    · cases h
    · simp only [Value.slice.injEq] at h1
      obtain ⟨_,_,rfl⟩:=h1
      exact ⟨h3,h4⟩
  have hmx:maxLen≤9223372036854775807:=by decide
  have H:=hide (indexFuncI_any W _ xs K lb p hK hO.sl fun W' hb j hj v hv=>by subst hv;exact hf W' (Frm.of_below hb _ _) j hj)
  by_cases hall:∀ x∈xs,p x=false
  · have e1:=idxOf_none hall
    have e2:(xs.filter fun x => !p x)=xs:=List.filter_eq_self.2 fun x hx=>by rw [hall x hx];rfl
    have HO:=hide hO
    have E1:=hide e1
    have E2:=hide e2
    clear hO e1 e2 hall hf
    go_enter Try.func48,Try.ntmps48
    go_wp2_with ((with_reducible refine H.out.mono ?_);rintro e w2 ⟨rfl,hb2⟩;rw [E1.out];dsimp only)
    go_ret
    rw [E2.out]
    exact ⟨xs,rfl,by rw [List.take_length],rfl,HO.out.below hb2,Frm.of_below hb2 _ _⟩
  · obtain ⟨k0,hk0,hp0,hbf⟩:∃ k,∃ hk:k<xs.length,p xs[k]=true∧∀ x∈xs.take k,p x=false:=by
      cases h:xs.findIdx? p with
      | none =>
        exfalso
        rw [List.findIdx?_eq_none_iff] at h
        exact hall h
      | some k =>
        rw [List.findIdx?_eq_some_iff_getElem] at h
        refine ⟨k,h.1,h.2.1,fun x hx => ?_⟩
        obtain ⟨i,hi,rfl⟩:=List.getElem_of_mem hx
        rw [List.getElem_take]
        have:=h.2.2 i (by simp at hi;omega)
        simpa using this
    have e1:=idxOf_some hk0 hp0 hbf
    have hne:((k0:Int) == -1)=false:=beq_eq_false_iff_ne.2 (by omega)
    have hD:DelI p xs xs (k0+1) k0:=by
      have e:(xs.take (k0+1)).filter (fun x => !p x)=xs.take k0:=by
        rw [List.take_succ_eq_append_getElem hk0,List.filter_append,List.filter_eq_self.2 fun x hx=>by rw [hbf x hx];rfl]
        simp [hp0]
      exact ⟨rfl,by omega,e.symm,rfl,by rw [e,List.length_take];omega⟩
    have HO:=hide hO
    have E1:=hide e1
    have HD:=hide hD
    have HF:=hide hf
    have HE:∀ (av:Array Value) (W:World),(callFunc K av).run Try.prog W = .ok (.enter K av) W:=hK
    clear hO e1 hall hf hbf hp0 hD hK
    go_enter Try.func48,Try.ntmps48
    go_wp2_with ((with_reducible refine H.out.mono ?_);rintro e w2 ⟨rfl,hb2⟩;rw [E1.out];dsimp only)
    go_loopw [5,6] (fun s5 s6 wr=>∃ (i j:Nat) (zs:List Int),s5 = .int .i64 i∧s6 = .int .i64 j∧j≤xs.length∧i<j∧Hid (DelI p xs zs j i)∧OwI wr g (g+1) (.slice (some ⟨g,0,none⟩) xs.length cap) zs∧Frm g (g+1) W wr) (fun _ s6 _=>xs.length-(intOf s6).toNat)
    case atStart=>exact ⟨k0,k0+1,xs,rfl,by go_num,by omega,by omega,HD,HO.out.below hb2,Frm.of_below hb2 _ _⟩
    case round =>
      obtain ⟨i,j,zs,rfl,rfl,hj,hij,hI,hO,hFr⟩:=hrel
      have hlen:xs.length=zs.length:=hI.out.len.symm
      by_cases hlt:j<xs.length
      · obtain ⟨hz,hzj⟩:=hI.out.at_ hlt
        have hc:=hO.cellAt hlen hz
        rw [hzj] at hc
        have hcall:=HF.out wr hFr j hlt
        cases hq:p xs[j] with
        | false =>
          rw [hq] at hcall
          have Q:=hide hq
          have C:=hide hcall
          clear hq hcall
          obtain ⟨old,hold⟩:=hO.some_ hlen (j:=i) (by omega)
          have hOi:=hide hO
          have hFi:=hide hFr
          clear hO hFr
          go_wp2_with ((with_reducible refine C.out.mono ?_);rintro e w3 ⟨rfl,hb3⟩;dsimp only;have hO3:=hOi.out.below hb3;obtain ⟨old3,hold3⟩:=hO3.some_ hlen (j:=i) (by omega);have hfr3:=hO3.free hlen i;have HS3:=hide (hO3.set hlen i xs[j]);have HF3:=hide (hFi.out.then_below hb3);clear hO3 hold)
          go_roundw
          case rel=>exact ⟨i+1,j+1,zs.set i xs[j],by go_num,by go_num,by omega,by omega,hide (hI.out.keep hlt Q.out),HS3.out.1,HF3.out.then HS3.out.2⟩
          case measure=>simp [intOf];omega
        | true =>
          rw [hq] at hcall
          have Q:=hide hq
          have C:=hide hcall
          clear hq hcall
          have hOi:=hide hO
          have hFi:=hide hFr
          clear hO hFr
          go_wp2_with ((with_reducible refine C.out.mono ?_);rintro e w3 ⟨rfl,hb3⟩;dsimp only)
          go_roundw
          case rel=>exact ⟨i,j+1,zs,rfl,by go_num,by omega,by omega,hide (hI.out.skip hlt Q.out),hOi.out.below hb3,hFi.out.then_below hb3⟩
          case measure=>simp [intOf];omega
      · obtain rfl:j=xs.length:=by omega
        have hcl:∀ ty,(Builtin.clear_ #[22] ty #[.slice (some ⟨g,i,none⟩) (xs.length-i) (cap-i)]).run Try.prog wr = .ok (.tuple #[]) (wr.setCells g i (List.replicate (xs.length-i) (.int .i64 0))):=fun ty =>
          Lib.run_clear_slice wr 22 3 ty (.int .i64 0) Try.underlying22 (fun w=>by kernel_rfl) rfl rfl g i _ _ (by omega) (fun t ht=>by rw [hO.cellAt hlen (j:=i+t) (by omega)];rfl) (fun t ht=>hO.free hlen (i+t))
        have HL:=hide hlen
        have hOi:=hide hO
        have hFi:=hide hFr
        clear hO hFr hlen
        go_wp2
        go_ret
        have hD:=hI.out
        have hl:=HL.out
        obtain ⟨zs',j1,j2,j3,j4⟩:=OwI.sets (List.replicate (xs.length-i) 0) i wr zs (by rw [← hl];exact hOi.out) (Nat.le_refl _) (by omega)
        rw [List.map_replicate] at j3 j4
        have e1:(xs.filter fun x => !p x)=zs.take i:=by rw [hD.low,List.take_length]
        have e2:(xs.filter fun x => !p x).length=i:=by have:=hD.ile;rw [List.take_length] at this;exact this.symm
        exact ⟨zs',by omega,by rw [e2,j2,e1],by rw [e2];rfl,j3,hFi.out.then j4⟩
theorem deleteFunc_nil (W:World) (K:FuncId) (lb:Array Value) (hK:Enters Try.prog K):Calls Try.prog 48 #[.slice none 0 0,.func (.func K) #[] lb] W fun e W'=>e = .returned (.slice none 0 0)∧Below W.heap.size W W':=by
  have H:=hide (indexFuncI_any W (.slice none 0 0) [] K lb (fun _=>false) hK (OwI.nil_ (lo:=0) (hi:=0)).sl fun W' hb j hj=>absurd hj (Nat.not_lt_zero j))
  have E1:=hide (idxOf_none (p:=fun _:Int=>false) (xs:=[]) (fun x h=>by simp at h))
  go_enter Try.func48,Try.ntmps48
  go_wp2_with ((with_reducible refine H.out.mono ?_);rintro e w2 ⟨rfl,hb2⟩;rw [E1.out];dsimp only)
  go_ret
  exact ⟨rfl,hb2⟩
theorem deleteFunc_h (xs:List Int) (K:Nat) (caps:List Lf) (p:Int→Bool) (hn:xs.length≤1048576) (hcap:caps.all capOK=true) (hK:∀ j,j<xs.length→Does Try.prog K (.int (xs.getD j 0)::caps.map fun y => .tv (.one y)) (.imm (.bool (p (xs.getD j 0))))) (hE:Enters Try.prog K) :
    DoesH Try.prog 48 [.lf (.own 0),.clo K caps] [] [.row 3 (.ints xs)] (.lf (.own 0)) [.row 3 (.ints (xs.filter fun x => !p x))]:=by
  have key:∀ (M:Am.Mem) (w:World) (us:List Value),(∀ ad v,M ad=some v→w.cell? ad=some v)→ArgsRel M [.clo K caps] us→∃ lb:Array Value,us=[.func (.func K) #[] lb]∧∀ (W':World),(∀ ad v,M ad=some v→W'.cell? ad=some v)→∀ (j:Nat) (hj:j<xs.length),Calls Try.prog K (#[.int .i64 xs[j]]++lb) W' fun e W''=>e = .returned (.bool (p xs[j]))∧Below W'.heap.size W' W'':=fun M w us hm ha=>by
    obtain ⟨u,us',rfl,h1,h2⟩:=args_inv ha
    obtain rfl:=args_inv0 h2
    obtain ⟨lb,rfl,hl⟩:=h1
    refine ⟨lb.toArray,rfl,fun W' hm' j hj => ?_⟩
    have h3:=(hK j hj).2 M W' (.int .i64 xs[j]::lb) hm' ⟨by simp [hl.1],fun i hi hi'=>by
      match i with
      | 0=>show _=_;simp [hj]
      | i+1 =>
        have hi2:i<caps.length:=by simpa using hi
        have h9:AV.rel noφ M (AV.tv (TV.one caps[i])) (lb[i]'(by simpa using hi')):=hl.2 i hi2 (by simpa using hi')
        simpa using h9⟩
    rw [show #[Value.int .i64 xs[j]]++lb.toArray=(Value.int .i64 xs[j]::lb).toArray by simp]
    refine h3.mono ?_
    rintro e W2 ⟨u,M2,rfl,_,_,h4,h5⟩
    refine ⟨?_,h5⟩
    have h4:u = .bool (p (xs.getD j 0)):=h4
    rw [h4]
    simp [hj]
  refine doesH_turn (args:=[.clo K caps]) true (fun _ _=>by kernel_rfl) (by simp only [List.all_cons,List.all_nil,clo_free hcap];rfl) (List.length_filter_le _ _) (fun h=>by cases h) (fun hx M w us hm ha => ?_) (fun M w us hm ha g cap cur hg hoff h1 h2 h3 h4 => ?_)
  · subst hx
    obtain ⟨lb,rfl,hf⟩:=key M w us hm ha
    refine (deleteFunc_nil w K lb hE).mono ?_
    rintro e w' ⟨rfl,hb⟩
    exact ⟨rfl,Kept.of_below hb⟩
  · obtain ⟨lb,rfl,hf⟩:=key M w us hm ha
    have hO:OwI w g (g+1) (.slice (some ⟨g,0,none⟩) xs.length cap) xs:=⟨⟨by simp,.inr ⟨g,cap,cur,rfl,Nat.zero_le _,hg,h1,h2,by simpa using h3,by simpa using h4⟩⟩,fun g' hg'=>by simp [Value.ownBlock] at hg';omega⟩
    refine (deleteFunc_at w g cap xs K lb p hn hE hO fun W' hF j hj=>hf W' (fun ad v h => ?_) j hj).mono ?_
    · have h5:=hm ad v h
      have h6:=hoff ad v h
      have h7:=hF.block ad.block (block_lt h5) (by omega)
      unfold World.cell? at h5 ⊢
      rw [h7]
      exact h5
    · rintro e w' ⟨zs,j1,j2,rfl,j3,j4⟩
      obtain ⟨⟨_,k⟩,_⟩:=j3
      rcases k with ⟨k,_⟩ | ⟨g',cap',cur',k1,_,k2,k3,k4,k5,k6⟩
      · cases k
      · simp only [Value.slice.injEq,Option.some.injEq,Addr.mk.injEq] at k1
        obtain ⟨⟨rfl,-,-⟩,-,rfl⟩:=k1
        refine ⟨rfl,⟨j4.os,j4.tape,j4.output,j4.size,fun k h1 h2=>j4.block k h1 (by omega)⟩,cur',k2,by simpa using k5,?_⟩
        have hle:(xs.filter fun x => !p x).length≤zs.length:=by rw [j1];exact List.length_filter_le _ _
        simp only [Nat.mul_one] at k6
        have e:=congrArg (List.take (xs.filter fun x => !p x).length) k6
        rw [List.take_take,Nat.min_eq_left hle,← List.map_take,j2] at e
        exact e
end Go.Proofs.Ytjblpcgkffhgfaa
