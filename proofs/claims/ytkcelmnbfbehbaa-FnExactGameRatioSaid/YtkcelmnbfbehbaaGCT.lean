/- Sequences of requests and chances: are they right for a problem, by the program's functions. Conditions: none. -/
import Derived.Test.YtkcelmnbfbehbaaPS
import Derived.IntWalk
import Derived.Test.YtkcelmnbfbehbaaGMI
import Derived.Test.YtkcelmnbfbehbaaGMA
set_option linter.all false
set_option linter.unusedSimpArgs false
set_option linter.unusedVariables false
namespace Go.Proofs.Ytkcelmnbfbehbaa
open Go.RowKit

/-- is a sequence of requests right, for n kinds -/
def seqB (n:Nat) (xs:List Int):Bool:=decide (xs.length≤60) && allIn 0 ((n:Int)-1) xs
def ChIn (w:World) (v:Value) (ws:List Int) (qs:List (List Int)):Prop:=∃ u1 u2,v = .agg #[u1,u2]∧SlI w u1 ws∧SlII w u2 qs
theorem ChIn.below {w w':World} {v:Value} {ws:List Int} {qs:List (List Int)} (h:ChIn w v ws qs) (hb:Below w.heap.size w w'):ChIn w' v ws qs:=by
  obtain ⟨u1,u2,e,h1,h2⟩:=h
  exact ⟨u1,u2,e,SlI.below h1 hb,SlII.below h2 hb⟩
theorem enters_areBelow:Enters Try.prog 108:=fun _ _=>by kernel_rfl
theorem areBelow1_any (w:World) (a:Addr) (x:Int) (n:Nat) (hn:n≤9223372036854775807) (hc:w.cell? a=some (.int .i64 n)) :
    Calls Try.prog 108 (#[.int .i64 x]++#[.pointer (some a)]) w fun e w'=>e = .returned (.bool (!rng x 0 ((n:Int)-1)))∧Below w.heap.size w w':=by
  simp only [List.push_toArray,List.append_toArray,List.cons_append,List.nil_append]
  go_enter Try.func108,Try.ntmps108
  go_wp2_with (go_at_call 74;refine (within_any _ _ _ _).mono ?_;rintro e w' ⟨rfl,rfl⟩;dsimp only)
  go_ret
  exact ⟨rfl,Below.refl _ _⟩
theorem areBelow_any (w:World) (u:Value) (n:Nat) (xs:List Int) (hn:n≤9223372036854775807) (hx:SlI w u xs) :
    Calls Try.prog 98 #[.int .i64 n,u] w fun e w'=>e = .returned (.bool (allIn 0 ((n:Int)-1) xs))∧Below w.heap.size w w':=by
  have hb:Below w.heap.size w (w.alloc (.cells #[.int .i64 n] 3)):=by repeat (first | exact Below.refl _ _ | apply Below.drew | refine Below.setCell ?_ (by first | (simp;done) | (simp;omega)) _ | refine Below.alloc ?_ (by first | (simp;done) | (simp;omega)) _)
  have H:=hide (containsFuncI_any (w.alloc (.cells #[.int .i64 n] 3)) u xs 108 #[.pointer (some ⟨w.heap.size,0,none⟩)] (fun x => !rng x 0 ((n:Int)-1)) enters_areBelow (hx.below hb) (fun W hW j hj v hv=>by
    subst hv
    exact areBelow1_any W _ _ n hn (cell_of_below hW (by simp [go_sem]))))
  have HR:Hid ((!xs.any fun x => !rng x 0 ((n:Int)-1))=allIn 0 ((n:Int)-1) xs):=by
    show (!xs.any fun x => !rng x 0 ((n:Int)-1))=_
    rw [not_any_not]
  clear hx
  go_enter Try.func98,Try.ntmps98
  go_wp2_with ((with_reducible refine H.out.mono ?_);rintro e w2 ⟨rfl,hb2⟩;dsimp only)
  go_ret
  exact ⟨by rw [← HR.out];rfl,hb.trans (hb2.mono (by simp))⟩

theorem isSequence_any (w:World) (v u:Value) (m s:List (List Int)) (xs:List Int) (hp:ProbIn w v m s) (hx:SlI w u xs) :
    Calls Try.prog 67 #[v,u] w fun e w'=>e = .returned (.bool (seqB s.length xs))∧Below w.heap.size w w':=by
  obtain ⟨u1,u2,rfl,h1,h2⟩:=hp
  have hls:=SlO.len h2
  have hlx:=hx.len
  have hb:Below w.heap.size w (w.alloc (.cells #[u1,u2] 31)):=by repeat (first | exact Below.refl _ _ | apply Below.drew | refine Below.setCell ?_ (by first | (simp;done) | (simp;omega)) _ | refine Below.alloc ?_ (by first | (simp;done) | (simp;omega)) _)
  have H:=hide (areBelow_any _ u s.length xs hls (hx.below hb))
  obtain ⟨A1,c1,rfl,_,_,_⟩:=SlO.view h1
  obtain ⟨A2,c2,rfl,_,_,_⟩:=SlO.view h2
  obtain ⟨A,c,rfl,_,_,_⟩:=hx.view
  clear h1 h2 hx
  by_cases hl:xs.length≤60
  · have HP:Hid (seqB s.length xs=allIn 0 ((s.length:Int)-1) xs):=by show seqB s.length xs=_;simp [seqB,hl]
    have hl':(xs.length:Int)≤60:=by omega
    have hd:decide ((xs.length:Int)≤60)=true:=by simp [hl']
    rw [HP.out]
    clear hl
    go_enter Try.func67,Try.ntmps67
    go_wp2_with ((with_reducible refine H.out.mono ?_);rintro e w2 ⟨rfl,hb2⟩;dsimp only)
    go_ret
    exact ⟨by simp,hb.trans (hb2.mono (by simp))⟩
  · have HP:Hid (seqB s.length xs=false):=by show seqB s.length xs=_;simp [seqB,hl]
    have hd:decide ((xs.length:Int)≤60)=false:=by simp;omega
    rw [HP.out]
    clear hl
    go_enter Try.func67,Try.ntmps67
    go_wp2
    go_ret
    exact ⟨by simp,hb⟩

end Go.Proofs.Ytkcelmnbfbehbaa
/- Sequences of requests, by the reference's function. Conditions: none. -/
set_option linter.all false
set_option linter.unusedSimpArgs false
set_option linter.unusedVariables false
namespace Go.Proofs.Ytkcelmnbfbehbaa
open Go.RowKit

def takesB (m s:List (List Int)) (start:Int) (xs:List Int):Bool:=probB m s && rng start 0 ((m.length:Int)-1) && seqB s.length xs

set_option maxHeartbeats 2000000 in
theorem l8Takes_any (w:World) (v u:Value) (m s:List (List Int)) (start:Int) (xs:List Int) (hp:ProbIn w v m s) (hx:SlI w u xs) :
    Calls Try.prog 33 #[v,.int .i64 start,u] w fun e w'=>e = .returned (.bool (takesB m s start xs))∧Below w.heap.size w w':=by
  have hp0:=hp
  obtain ⟨u1,u2,rfl,h1,h2⟩:=hp
  obtain ⟨W,hW⟩:∃ W,w.alloc (.cells #[u1,u2] 31)=W:=⟨_,rfl⟩
  have hB:Below w.heap.size w W:=by rw [← hW];exact by repeat (first | exact Below.refl _ _ | apply Below.drew | refine Below.setCell ?_ (by first | (simp;done) | (simp;omega)) _ | refine Below.alloc ?_ (by first | (simp;done) | (simp;omega)) _)
  have hb1:W.cell? ⟨w.heap.size,0,none⟩=some u1:=by rw [← hW];simp [go_sem]
  have hb2:W.cell? ⟨w.heap.size,1,none⟩=some u2:=by rw [← hW];simp [go_sem]
  have hlm:=SlO.len h1
  have hls:=SlO.len h2
  have hlx:=SlI.len hx
  have HA:=hide (l8Good_any W _ m s (hp0.below hB))
  obtain ⟨A1,c1,rfl,_,_,_⟩:=SlO.view h1
  obtain ⟨A2,c2,rfl,_,_,_⟩:=SlO.view h2
  obtain ⟨A,c,rfl,_,_,hcell⟩:=SlI.view hx
  have HW:=hide hW
  have HCELL:=hide hcell
  have hwr1:IntKind.i64.wrap ((m.length:Int)-1)=(m.length:Int)-1:=IntWalk.i64_in _ (by omega)
  have hwr2:IntKind.i64.wrap ((s.length:Int)-1)=(s.length:Int)-1:=IntWalk.i64_in _ (by omega)
  clear hp0 h1 h2 hx hcell hW
  cases q1:probB m s
  · have HP:Hid (takesB m s start xs=false):=by show takesB m s start xs=_;simp [takesB,q1]
    have Q1:=hide q1
    clear q1
    rw [HP.out]
    go_enter Try.func33,Try.ntmps33
    go_wp2_with fail
    rw [HW.out]
    refine HA.out.mono ?_
    rintro e w2 ⟨rfl,hb2'⟩
    rw [Q1.out]
    dsimp only
    go_wp2
    go_ret
    exact ⟨rfl,hB.trans (hb2'.mono hB.size)⟩
  · have Q1:=hide q1
    cases q2:rng start 0 ((m.length:Int)-1)
    · have HP:Hid (takesB m s start xs=false):=by show takesB m s start xs=_;simp [takesB,q2]
      have Q2:=hide q2
      clear q1 q2
      rw [HP.out]
      go_enter Try.func33,Try.ntmps33
      go_wp2_with fail
      rw [HW.out]
      refine HA.out.mono ?_
      rintro e w2 ⟨rfl,hb2'⟩
      rw [Q1.out]
      have d1:=cell_of_below hb2' hb1
      dsimp only
      go_wp2_with fail
      refine (l1In_any _ _ _ _).mono ?_
      rintro e w' ⟨rfl,rfl⟩
      rw [Q2.out]
      dsimp only
      go_wp2
      go_ret
      exact ⟨rfl,hB.trans (hb2'.mono hB.size)⟩
    · have Q2:=hide q2
      by_cases q3:xs.length≤60
      · have hg:decide ((xs.length:Int) > 60)=false:=by simp;omega
        have HP:Hid (takesB m s start xs=allIn 0 ((s.length:Int)-1) xs):=by show takesB m s start xs=_;simp [takesB,seqB,q1,q2,q3]
        clear q1 q2 q3
        rw [HP.out]
        go_enter Try.func33,Try.ntmps33
        go_wp2_with fail
        rw [HW.out]
        refine HA.out.mono ?_
        rintro e w2 ⟨rfl,hb2'⟩
        rw [Q1.out]
        have d1:=cell_of_below hb2' hb1
        have d2:=cell_of_below hb2' hb2
        have B2:=hB.trans (hb2'.mono hB.size)
        have HB2:=hide B2
        dsimp only
        go_wp2_with fail
        refine (l1In_any _ _ _ _).mono ?_
        rintro e w' ⟨rfl,rfl⟩
        rw [Q2.out]
        dsimp only
        go_wp2
        go_loopw [7] (fun i wr=>∃ k:Nat,k≤xs.length∧i = .int .i64 k∧Hid (∀ x∈xs.take k,rng x 0 ((s.length:Int)-1)=true)∧Qt w2 wr) (fun i _=>xs.length-(intOf i).toNat)
        case atStart=>exact ⟨0,Nat.zero_le _,rfl,(fun x h=>by simp at h),Qt.refl _⟩
        case round =>
          obtain ⟨k,hk,rfl,hN,n,rfl⟩:=hrel
          by_cases hlt:k<xs.length
          · obtain ⟨ad,rfl,j1⟩:=HCELL.out k hlt
            have j1':w2.cell? (ad.add k)=some (.int .i64 xs[k]):=(HB2.out.cell (block_lt j1)).trans j1
            have HR:=hide fun a=>l1In_any (w2.drewN a) xs[k] 0 ((s.length:Int)-1)
            clear j1
            cases hp:rng xs[k] 0 ((s.length:Int)-1)
            · have HF:Hid (allIn 0 ((s.length:Int)-1) xs=false):=allIn_no (List.getElem_mem hlt) hp
              rw [hp] at HR
              clear hp
              go_wp2_with fail
              go_quiet ((go_at_call 56;first | exact quiet3 (HR.out _) | exact quiet2 (HR.out _)))
              go_wp2
              go_ret
              exact ⟨by rw [HF.out];rfl,below_drewN (below_drewN HB2.out _) _⟩
            · have HP2:=hide hp
              rw [hp] at HR
              clear hp
              go_wp2_with fail
              go_quiet ((go_at_call 56;first | exact quiet3 (HR.out _) | exact quiet2 (HR.out _)))
              go_wp2
              go_roundw
              case rel =>
                refine ⟨k+1,by omega,by go_num,?_,by first | exact ⟨_,rfl⟩ | exact ⟨_,World.drewN_drewN _ _ _⟩⟩
                intro x hx
                rw [List.take_succ_eq_append_getElem hlt] at hx
                rcases List.mem_append.1 hx with hx | hx
                · exact hN.out x hx
                · simp at hx
                  rw [hx]
                  exact HP2.out
              case measure=>simp [intOf];omega
          · go_wp2
            go_ret
            obtain rfl:k=xs.length:=by omega
            have h1:=hN.out
            rw [List.take_of_length_le (Nat.le_refl _)] at h1
            have h2:allIn 0 ((s.length:Int)-1) xs=true:=by unfold allIn;exact List.all_eq_true.2 h1
            exact ⟨by rw [h2];rfl,below_drewN HB2.out _⟩
      · have hg:decide ((xs.length:Int) > 60)=true:=by simp;omega
        have HP:Hid (takesB m s start xs=false):=by show takesB m s start xs=_;simp [takesB,seqB,q3]
        clear q1 q2 q3
        rw [HP.out]
        go_enter Try.func33,Try.ntmps33
        go_wp2_with fail
        rw [HW.out]
        refine HA.out.mono ?_
        rintro e w2 ⟨rfl,hb2'⟩
        rw [Q1.out]
        have d1:=cell_of_below hb2' hb1
        dsimp only
        go_wp2_with fail
        refine (l1In_any _ _ _ _).mono ?_
        rintro e w' ⟨rfl,rfl⟩
        rw [Q2.out]
        dsimp only
        go_wp2
        go_ret
        exact ⟨rfl,hB.trans (hb2'.mono hB.size)⟩
end Go.Proofs.Ytkcelmnbfbehbaa
/- Costs, served states, sums, and what is started, on the machine. Conditions: problems that are right. -/
set_option linter.all false
set_option linter.unusedSimpArgs false
set_option linter.unusedVariables false
namespace Go.Proofs.Ytkcelmnbfbehbaa
open Go Go.RowKit Am

/-- other arguments that stand for the same -/
theorem Does.args {P:Program} {f:Nat} {xs ys:List AV} {r:Res} (h:Does P f ys r) (k:∀ M us,ArgsRel M xs us→ArgsRel M ys us):Does P f xs r:=⟨h.1,fun M w us hm ha=>h.2 M w us hm (k M us ha)⟩
theorem nil_ints {M:Am.Mem} {u:Value} (h:(AV.val (.slice none 0 0)).rel noφ M u):(AV.sl (.ints [])).rel noφ M u:=by
  obtain rfl:u = .slice none 0 0:=h
  exact nil_rel (c := .ints []) rfl trivial
theorem prob_len {m s:List (List Int)} (h:probB m s=true):1≤m.length∧m.length≤4∧1≤s.length∧s.length≤4:=by
  have h1:rng m.length 1 4=true:=by
    cases q:rng m.length 1 4
    · rw [probB_1 q] at h;cases h
    · rfl
  have h2:rng s.length 1 4=true:=by
    cases q:rng s.length 1 4
    · rw [probB_3 q] at h;cases h
    · rfl
  have h1:=rng_iff.1 h1
  have h2:=rng_iff.1 h2
  omega
theorem prob_met {m s:List (List Int)} (h:probB m s=true):metB m=true:=by
  cases q:metB m
  · rw [probB_2 q] at h;cases h
  · rfl
/-! ### served states -/
def srv (s:List (List Int)) (n r:Nat):List Int:=((List.range n).filter fun y=>decide (0≤at2 s r y)).map fun (y:Nat)=>(y:Int)
theorem srv_step (s:List (List Int)) (n r:Nat):srv s (n+1) r=if 0≤at2 s r n then srv s n r++[(n:Int)] else srv s n r:=by
  unfold srv
  rw [List.range_succ,List.filter_append]
  by_cases h:0≤at2 s r n<;>simp [h]
theorem srv_len (s:List (List Int)) (n r:Nat):(srv s n r).length≤n:=by
  unfold srv
  rw [List.length_map]
  exact Nat.le_trans (List.length_filter_le _ _) (by simp)
theorem served_d (m s:List (List Int)) (r:Nat) (hr:r<s.length) (hrow:(s.getD r []).length=m.length) (hm:m.length≤1000):Does Try.prog 43 [prA m s,.int r] (.imm (.sl (.ints (srv s m.length r)))):=by
  refine spec_imm Try.func43 rfl Try.ntmps43 cfOK (fun _ _=>by kernel_rfl) rfl (Nat.le_of_ble_eq_true rfl) ?_
  intro M0 w0
  rw [Try.results43]
  refine amGo ?_
  refine awp_rounds (α:=Nat) (fun k=>[(15,true,.int k)]) [2,5,13,14] (fun k=>[.box [.b (.sl (.ii m)),.b (.sl (.ii s))],.row 3 (.ints (srv s k r))]) (fun k=>k≤m.length) (fun k=>m.length-k) 0 (by ((try simp only [xk]);(repeat (refine leK_cons ?_ ?_;first | (exact amE) | rotate_left));(try exact leK_nil rfl);(all_goals (try (simp only [xr,simprocAttr];try refine int_eq1 ?_))))) (Nat.zero_le _) fun k hk => ?_
  have hl:=srv_len s k r
  simp only [xr,simprocAttr]
  refine amGo ?_
  refine awp_cond amQ (fun hc => ?_) (fun hc => ?_)
  · have hk':k<m.length:=by have hc:=of_decide_eq_true hc;omega
    refine amGo ?_
    refine awp_cond amQ (fun hd => ?_) (fun hd => ?_)
    · have hd:0≤at2 s r k:=by simpa [at2] using hd
      refine amGo ?_
      refine ⟨k+1,by omega,by omega,.inl ?_⟩
      ((try simp only [xk]);(repeat (refine leK_cons ?_ ?_;first | (exact amE) | rotate_left));(refine leK_nil ?_;exact (by rw [srv_step,if_pos hd]));(all_goals (try (simp only [xr,simprocAttr];try refine int_eq1 ?_))))
    · have hd:¬ 0≤at2 s r k:=by simpa [at2] using hd
      refine amGo ?_
      refine ⟨k+1,by omega,by omega,.inl ?_⟩
      ((try simp only [xk]);(repeat (refine leK_cons ?_ ?_;first | (exact amE) | rotate_left));(refine leK_nil ?_;exact (by rw [srv_step,if_neg hd]));(all_goals (try (simp only [xr,simprocAttr];try refine int_eq1 ?_))))
  · have hk':k=m.length:=by have hc:=of_decide_eq_false hc;omega
    subst hk'
    refine amGoR ?_
    (refine awp_frz 1 rfl ?_;simp only [xz,simprocAttr])
    refine amGo ?_
    (simp only [xe,simprocAttr];refine ⟨_,rfl,rfl,Imp.eq ?_⟩)
    rfl
theorem prob_m {m s:List (List Int)} (h:probB m s=true) {x:Nat} (hx:x<m.length):(m.getD x []).length=m.length∧∀ y,y<m.length→0≤at2 m x y∧at2 m x y≤99:=by
  have h1:=prob_met h
  unfold metB at h1
  simp only [Bool.and_eq_true] at h1
  have h2:=h1.1
  unfold tableB at h2
  simp only [Bool.and_eq_true] at h2
  refine ⟨?_,fun y hy=>tab_bound h2.2 hx hy⟩
  rw [getD_in hx]
  exact sqB_iff.1 h2.1.2 _ (List.getElem_mem hx)
theorem prob_s {m s:List (List Int)} (h:probB m s=true) {r:Nat} (hr:r<s.length):∀ y,y<m.length → -1≤at2 s r y∧at2 s r y≤20:=fun y hy=>by
  unfold probB at h
  simp only [Bool.and_eq_true,List.all_eq_true] at h
  have h1:=h.2 _ (List.getElem_mem hr)
  unfold reqB at h1
  simp only [Bool.and_eq_true,beq_iff_eq] at h1
  have hy':y<s[r].length:=by omega
  have h2:=allIn_iff.1 h1.1.2 _ (List.getElem_mem hy')
  rw [at2_eq hr hy']
  exact h2
theorem cost_d (m s:List (List Int)) (x y r:Nat) (hp:probB m s=true) (hx:x<m.length) (hy:y<m.length) (hr:r<s.length):Does Try.prog 45 [prA m s,.int x,.int y,.int r] (.imm (.int (at2 m x y+at2 s r y))):=by
  refine spec_imm Try.func45 rfl Try.ntmps45 cfOK (fun _ _=>by kernel_rfl) rfl (Nat.le_of_ble_eq_true rfl) ?_
  intro M0 w0
  rw [Try.results45]
  have h1:=prob_rows hp r hr
  have h2:=prob_m hp hx
  have h3:=h2.2 y hy
  have h4:=prob_s hp hr y hy
  have h5:=h2.1
  unfold at2 at h3 h4
  refine amGo ?_
  (simp only [xe,simprocAttr];refine ⟨_,rfl,rfl,Imp.eq ?_⟩)
  rfl
/-! ### starts -/
theorem isSequence_d (m s:List (List Int)) (xs:List Int):Does Try.prog 67 [prA m s,.sl (.ints xs)] (.imm (.bool (seqB s.length xs))) :=
  does_val (fun _ _=>by kernel_rfl) fun M w us hm ha=>by
    obtain ⟨u,us',rfl,h1,h2⟩:=args_inv ha
    obtain ⟨u',us'',rfl,h3,h4⟩:=args_inv h2
    obtain rfl:=args_inv0 h4
    obtain ⟨a,b,rfl,h5,h6⟩:=ls_two h1
    exact isSequence_any w _ u' m s xs ⟨a,b,rfl,sl_of_sii hm h5,sl_of_sii hm h6⟩ (sl_of_si hm h3)
theorem l8Takes_d (m s:List (List Int)) (x:Int) (xs:List Int):Does Try.prog 33 [prA m s,.int x,.sl (.ints xs)] (.imm (.bool (takesB m s x xs))) :=
  does_val (fun _ _=>by kernel_rfl) fun M w us hm ha=>by
    obtain ⟨u,us',rfl,h1,h2⟩:=args_inv ha
    obtain ⟨u',us'',rfl,h3,h4⟩:=args_inv h2
    obtain ⟨u2,us3,rfl,h7,h8⟩:=args_inv h4
    obtain rfl:=args_inv0 h8
    obtain rfl:u' = .int .i64 x:=h3
    obtain ⟨a,b,rfl,h5,h6⟩:=ls_two h1
    exact l8Takes_any w _ u2 m s x xs ⟨a,b,rfl,sl_of_sii hm h5,sl_of_sii hm h6⟩ (sl_of_si hm h7)
theorem isStarted_d (m s:List (List Int)) (x:Int) (xs:List Int):Does Try.prog 41 [prA m s,.int x,.sl (.ints xs)] (.imm (.bool (takesB m s x xs))):=by
  refine spec_imm Try.func41 rfl Try.ntmps41 cfOK (fun _ _=>by kernel_rfl) rfl (Nat.le_of_ble_eq_true rfl) ?_
  intro M0 w0
  rw [Try.results41]
  refine amGo ?_
  ((try refine Or.inl ?_);refine ⟨_,(isProblem_d _ _),.inl rfl,?_⟩;refine amC ?_)
  refine amGo ?_
  ((try refine Or.inl ?_);refine ⟨_,(fun _=>isState_d _ _ _),.inl rfl,?_⟩;refine amC ?_)
  refine amGo ?_
  ((try refine Or.inl ?_);refine ⟨_,(fun _=>isSequence_d _ _ _),.inl rfl,?_⟩;refine amC ?_)
  refine amGo ?_
  (simp only [xe,simprocAttr];refine ⟨_,rfl,rfl,Imp.eq ?_⟩)
  show AV.bool _=AV.bool _
  simp only [Bool.cond_false_right]
  rfl
theorem eqFrac_d (a b:Int×Int):Does Try.prog 17 [frA a,frA b] (.imm (.bool (decide (a=b)))):=by
  refine spec_imm Try.func17 rfl Try.ntmps17 cfOK (fun _ _=>by kernel_rfl) rfl (Nat.le_of_ble_eq_true rfl) ?_
  intro M0 w0
  rw [Try.results17]
  refine amGo ?_
  refine awp_cond amQ (fun hc => ?_) (fun hc => ?_)
  · have hn:a≠b:=fun e=>by simp [e] at hc
    refine amGo ?_
    (simp only [xe,simprocAttr];refine ⟨_,rfl,rfl,Imp.eq ?_⟩)
    rw [decide_eq_false hn]
  · have h1:a.1=b.1:=by simpa using hc
    refine amGo ?_
    refine awp_cond amQ (fun hd => ?_) (fun hd => ?_)
    · have hn:a≠b:=fun e=>by simp [e] at hd
      refine amGo ?_
      (simp only [xe,simprocAttr];refine ⟨_,rfl,rfl,Imp.eq ?_⟩)
      rw [decide_eq_false hn]
    · have h2:a.2=b.2:=by simpa using hd
      refine amGo ?_
      (simp only [xe,simprocAttr];refine ⟨_,rfl,rfl,Imp.eq ?_⟩)
      rw [decide_eq_true (Prod.ext h1 h2)]
end Go.Proofs.Ytkcelmnbfbehbaa
