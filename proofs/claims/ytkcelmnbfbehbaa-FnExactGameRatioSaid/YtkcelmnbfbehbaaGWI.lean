/- Work functions on the machine: the reference's. Conditions: problems that are right. -/
import Derived.Test.YtkcelmnbfbehbaaGWO
import Derived.Test.YtkcelmnbfbehbaaMR
set_option linter.all false
set_option linter.unusedSimpArgs false
set_option linter.unusedVariables false
namespace Go.Proofs.Ytkcelmnbfbehbaa
open Go Go.RowKit Am

theorem l1Least_d (a b:Int):Does Try.prog 112 [.int a,.int b] (.imm (.int (min a b))):=by
  refine spec_imm Try.func112 rfl Try.ntmps112 cfOK (fun _ _=>by kernel_rfl) rfl (Nat.le_of_ble_eq_true rfl) ?_
  intro M0 w0
  rw [Try.results112]
  refine amGo ?_
  refine awp_cond amQ (fun hc => ?_) (fun hc => ?_)
  · have hc:=of_decide_eq_true hc
    refine amGo ?_
    (simp only [xe,simprocAttr];refine ⟨_,rfl,rfl,Imp.eq ?_⟩)
    rw [show min a b=a by omega]
  · have hc:=of_decide_eq_false hc
    refine amGo ?_
    (simp only [xe,simprocAttr];refine ⟨_,rfl,rfl,Imp.eq ?_⟩)
    rw [show min a b=b by omega]
theorem l8Least_d (w:List Int) (hw:w≠[]):Does Try.prog 104 [.sl (.ints w)] (.imm (.int (leastM w (w.length-1)))):=by
  have hl:0<w.length:=List.length_pos_iff.2 hw
  refine spec_imm Try.func104 rfl Try.ntmps104 cfOK (fun _ _=>by kernel_rfl) rfl (Nat.le_of_ble_eq_true rfl) ?_
  intro M0 w0
  rw [Try.results104]
  (refine awp_fits 0 rfl fun hf => ?_;simp only [xp,simprocAttr] at hf;simp only [xf,simprocAttr] at hf)
  refine amGo ?_
  refine awp_rounds (α:=Nat) (fun k=>[(3,true,.int (leastM w k)),(4,true,.int ((k:Int)+1))]) [0] (fun _=>[]) (fun k=>k≤w.length-1) (fun k=>w.length-1-k) 0 (by ((try simp only [xk]);(repeat (refine leK_cons ?_ ?_;first | (exact amE) | rotate_left));(try exact leK_nil rfl);(all_goals (try (simp only [xr,simprocAttr];try refine int_eq1 ?_))))) (Nat.zero_le _) fun k hk => ?_
  simp only [xr,simprocAttr]
  refine amGo ?_
  refine awp_cond amQ (fun hc => ?_) (fun hc => ?_)
  · have hc:=of_decide_eq_true hc
    have hk':k+1<w.length:=by omega
    refine amGo ?_
    ((try refine Or.inl ?_);refine ⟨_,(l1Least_d _ _),.inl rfl,?_⟩;refine amC ?_)
    refine amGo ?_
    refine ⟨k+1,by omega,by omega,.inl ?_⟩
    ((try simp only [xk]);(repeat (refine leK_cons ?_ ?_;first | (exact amE) | rotate_left));(try exact leK_nil rfl);(all_goals (try (simp only [xr,simprocAttr];try refine int_eq1 ?_))))
  · have hc:=of_decide_eq_false hc
    have hk':k=w.length-1:=by omega
    subst hk'
    refine amGo ?_
    (simp only [xe,simprocAttr];refine ⟨_,rfl,rfl,Imp.eq ?_⟩)
    rfl
theorem sliceMin_d (w:List Int) (hw:w≠[]):Does Try.prog 70 [.sl (.ints w)] (.imm (.int (leastM w (w.length-1)))):=by
  have hl:0<w.length:=List.length_pos_iff.2 hw
  refine spec_imm Try.func70 rfl Try.ntmps70 cfOK (fun _ _=>by kernel_rfl) rfl (Nat.le_of_ble_eq_true rfl) ?_
  intro M0 w0
  rw [Try.results70]
  (refine awp_fits 0 rfl fun hf => ?_;simp only [xp,simprocAttr] at hf;simp only [xf,simprocAttr] at hf)
  refine amGo ?_
  refine awp_cond amQ (fun hq => ?_) (fun hq => ?_)
  · have hq:=of_decide_eq_true hq
    omega
  refine amGo ?_
  refine awp_rounds (α:=Nat) (fun k=>[(3,true,.int (leastM w k)),(4,true,.int ((k:Int)+1))]) [0] (fun _=>[]) (fun k=>k≤w.length-1) (fun k=>w.length-1-k) 0 (by ((try simp only [xk]);(repeat (refine leK_cons ?_ ?_;first | (exact amE) | rotate_left));(try exact leK_nil rfl);(all_goals (try (simp only [xr,simprocAttr];try refine int_eq1 ?_))))) (Nat.zero_le _) fun k hk => ?_
  simp only [xr,simprocAttr]
  refine amGo ?_
  refine awp_cond amQ (fun hc => ?_) (fun hc => ?_)
  · have hc:=of_decide_eq_true hc
    have hk':k+1<w.length:=by omega
    refine amGo ?_
    refine ⟨k+1,by omega,by omega,.inl ?_⟩
    ((try simp only [xk]);(repeat (refine leK_cons ?_ ?_;first | (exact amE) | rotate_left));(try exact leK_nil rfl);(all_goals (try (simp only [xr,simprocAttr];try refine int_eq1 ?_))))
  · have hc:=of_decide_eq_false hc
    have hk':k=w.length-1:=by omega
    subst hk'
    refine amGo ?_
    (simp only [xe,simprocAttr];refine ⟨_,rfl,rfl,Imp.eq ?_⟩)
    rfl
theorem l8Next_d (m s:List (List Int)) (w:List Int) (B:Int) (r:Nat) (hp:probB m s=true) (hw:WkOK m w B) (hB:B≤1000000) (hr:r<s.length):Does Try.prog 88 [prA m s,.sl (.ints w),.int r] (.imm (.sl (.ints (nextM m s w r)))):=by
  have hl:=prob_len hp
  have hrow:=prob_rows hp r hr
  have hwl:=hw.len
  refine spec_imm Try.func88 rfl Try.ntmps88 cfOK (fun _ _=>by kernel_rfl) rfl (Nat.le_of_ble_eq_true rfl) ?_
  intro M0 w0
  rw [Try.results88]
  refine amGo ?_
  refine awp_rounds (α:=Nat) (fun t=>[(8,true,.int t)]) [1,2,3,7] (fun t=>[.box [.b (.sl (.ii m)),.b (.sl (.ii s))],.row 3 (.ints ((List.range t).map fun x=>wAt m s w r x))]) (fun t=>t≤m.length) (fun t=>m.length-t) 0 (by ((try simp only [xk]);(repeat (refine leK_cons ?_ ?_;first | (exact amE) | rotate_left));(try exact leK_nil rfl);(all_goals (try (simp only [xr,simprocAttr];try refine int_eq1 ?_))))) (Nat.zero_le _) fun t ht => ?_
  have hlt:((List.range t).map fun x=>wAt m s w r x).length=t:=by simp
  simp only [xr,simprocAttr]
  refine amGo ?_
  refine awp_cond amQ (fun hc => ?_) (fun hc => ?_)
  · have hc:=of_decide_eq_true hc
    have ht':t<m.length:=by omega
    refine amGo ?_
    refine awp_rounds (α:=Nat) (fun y=>[(9,true,.int (minS (fun y=>decide (0≤at2 s r y)) (wOff m s w r t) y)),(10,true,.int y)]) [1,2,3,7,8] (fun _=>[.box [.b (.sl (.ii m)),.b (.sl (.ii s))],.row 3 (.ints ((List.range t).map fun x=>wAt m s w r x))]) (fun y=>y≤m.length) (fun y=>m.length-y) 0 (by ((try simp only [xk]);(repeat (refine leK_cons ?_ ?_;first | (exact amE) | rotate_left));(try exact leK_nil rfl);(all_goals (try (simp only [xr,simprocAttr];try refine int_eq1 ?_))))) (Nat.zero_le _) fun y hy => ?_
    simp only [xr,simprocAttr]
    refine amGo ?_
    refine awp_cond amQ (fun he => ?_) (fun he => ?_)
    · have he:=of_decide_eq_true he
      have hy':y<m.length:=by omega
      refine amGo ?_
      refine awp_cond amQ (fun hg => ?_) (fun hg => ?_)
      · have hg:¬ 0≤at2 s r y:=by have hg:=of_decide_eq_true hg;unfold at2;omega
        refine amGo ?_
        refine ⟨y+1,by omega,by omega,.inl ?_⟩
        ((try simp only [xk]);(repeat (refine leK_cons ?_ ?_;first | (exact amE) | rotate_left));(try exact leK_nil rfl);(all_goals (try (simp only [xr,simprocAttr];try refine int_eq1 ?_))))
        rw [minS,if_neg (by simpa using hg)]
      · have hg:0≤at2 s r y:=by have hg:=of_decide_eq_false hg;unfold at2;omega
        have h1:=hw.at_ y hy'
        have h2:=prob_s hp hr y hy'
        have h3:=(prob_m hp hy').2 t ht'
        have h4:=(prob_m hp hy').1
        have hof:wOff m s w r t y=w.getD y 0+at2 s r y+at2 m y t:=rfl
        unfold at2 at h2 h3 hof
        refine amGo ?_
        refine awp_cond amQ (fun hq => ?_) (fun hq => ?_)
        · have hq:(minS (fun y=>decide (0≤at2 s r y)) (wOff m s w r t) y<0∨wOff m s w r t y<minS (fun y=>decide (0≤at2 s r y)) (wOff m s w r t) y):=bif_or.1 hq
          refine amGo ?_
          refine ⟨y+1,by omega,by omega,.inl ?_⟩
          ((try simp only [xk]);(repeat (refine leK_cons ?_ ?_;first | (exact amE) | rotate_left));(try exact leK_nil rfl);(all_goals (try (simp only [xr,simprocAttr];try refine int_eq1 ?_))))
          rw [minS,if_pos (decide_eq_true hg),if_pos hq]
          rfl
        · have hq:¬ (minS (fun y=>decide (0≤at2 s r y)) (wOff m s w r t) y<0∨wOff m s w r t y<minS (fun y=>decide (0≤at2 s r y)) (wOff m s w r t) y):=bif_or_not.1 hq
          refine amGo ?_
          refine ⟨y+1,by omega,by omega,.inl ?_⟩
          ((try simp only [xk]);(repeat (refine leK_cons ?_ ?_;first | (exact amE) | rotate_left));(try exact leK_nil rfl);(all_goals (try (simp only [xr,simprocAttr];try refine int_eq1 ?_))))
          rw [minS,if_pos (decide_eq_true hg),if_neg hq]
    · have he:=of_decide_eq_false he
      have hy':y=m.length:=by omega
      subst hy'
      rw [(wAt_ok hp hw hB hr ht').1]
      refine amGo ?_
      refine ⟨t+1,by omega,by omega,.inl ?_⟩
      ((try simp only [xk]);(repeat (refine leK_cons ?_ ?_;first | (exact amE) | rotate_left));(refine leK_nil ?_;exact (by rw [List.range_succ,List.map_append];rfl));(all_goals (try (simp only [xr,simprocAttr];try refine int_eq1 ?_))))
  · have hc:=of_decide_eq_false hc
    have ht':t=m.length:=by omega
    subst ht'
    refine amGoR ?_
    (refine awp_frz 1 rfl ?_;simp only [xz,simprocAttr])
    refine amGo ?_
    (simp only [xe,simprocAttr];refine ⟨_,rfl,rfl,Imp.eq ?_⟩)
    rfl
end Go.Proofs.Ytkcelmnbfbehbaa
/- Work functions on the machine: the program's. Conditions: problems that are right. -/
set_option linter.all false
set_option linter.unusedSimpArgs false
set_option linter.unusedVariables false
namespace Go.Proofs.Ytkcelmnbfbehbaa
open Go Go.RowKit Am

set_option maxHeartbeats 2000000 in
theorem nextWork_h (m s:List (List Int)) (w:List Int) (B:Int) (r:Nat) (hp:probB m s=true) (hw:WkOK m w B) (hB:B≤1000000) (hr:r<s.length):DoesH Try.prog 69 [prA m s,.sl (.ints w),.int r] [] [] (.lf (.own 0)) [.row 3 (.ints (nextM m s w r))]:=by
  have hl:=prob_len hp
  have hrow:=prob_rows hp r hr
  have hwl:=hw.len
  refine spec_hB Try.func69 rfl Try.ntmps69 cfOK (fun _ _=>by kernel_rfl) rfl rfl rfl ?_
  intro M0 w0 S φ0
  rw [Try.results69]
  refine amGo ?_
  (refine .inr (.inl (callW_b (repH 1073741824 w.length (by omega) (by omega)) rfl rfl rfl rfl rfl rfl rfl ?_));refine amC ?_)
  rw [hwl,rowW_first (s:=s) (w:=w) (r:=r)]
  refine amGo ?_
  ((try refine Or.inl ?_);refine ⟨_,(served_d m s r hr hrow (by omega)),amF,?_⟩;refine amC ?_)
  refine amGo ?_
  refine awp_rounds (α:=Nat) (fun t=>[(19,true,.int t)]) [1,2,3,7,17,18] (fun t=>[.box [.b (.sl (.ii m)),.b (.sl (.ii s))],.row 3 (.ints (rowW m s w r t 0))]) (fun t=>t≤(srv s m.length r).length) (fun t=>(srv s m.length r).length-t) 0 (by ((try simp only [xk]);(repeat (refine leK_cons ?_ ?_;first | (exact amE) | rotate_left));(try exact leK_nil rfl);(all_goals (try (simp only [xr,simprocAttr];try refine int_eq1 ?_))))) (Nat.zero_le _) fun t ht => ?_
  have hl1:=rowW_len m s w r t 0
  have hsl:=srv_len s m.length r
  simp only [xr,simprocAttr]
  refine amGo ?_
  refine awp_cond amQ (fun hc => ?_) (fun hc => ?_)
  · have hc:=of_decide_eq_true hc
    have ht':t<(srv s m.length r).length:=by omega
    obtain ⟨z,hz1,hz2,hz3⟩:=srv_mem ht'
    refine amGo ?_
    rw [hz1]
    refine awp_rounds (α:=Nat) (fun x=>[(25,true,.int x)]) [1,2,3,7,9,17,18,19,24] (fun x=>[.box [.b (.sl (.ii m)),.b (.sl (.ii s))],.row 3 (.ints (rowW m s w r t x))]) (fun x=>x≤m.length) (fun x=>m.length-x) 0 (by ((try simp only [xk]);(repeat (refine leK_cons ?_ ?_;first | (exact amE) | rotate_left));(try exact leK_nil rfl);(all_goals (try (simp only [xr,simprocAttr];try refine int_eq1 ?_))))) (Nat.zero_le _) fun x hx => ?_
    have hl2:=rowW_len m s w r t x
    simp only [xr,simprocAttr]
    refine amGo ?_
    refine awp_cond amQ (fun he => ?_) (fun he => ?_)
    · have he:=of_decide_eq_true he
      have hx':x<m.length:=by omega
      have h1:=hw.at_ z hz2
      have h2:=prob_s hp hr z hz2
      have h3:=(prob_m hp hz2).2 x hx'
      have h4:=(prob_m hp hz2).1
      have hof:wOff m s w r x z=w.getD z 0+at2 s r z+at2 m z x:=rfl
      have hat:=rowW_at (s:=s) (w:=w) (r:=r) (t:=t) hx'
      have hst:=rowW_set (w:=w) (x:=x) ht' hz1
      unfold at2 at h2 h3 hof
      refine amGo ?_
      (refine amB ?_;refine awp_anyM [1] 30 [4,5,29] (by kernel_rfl) (by kernel_rfl) (by kernel_rfl) (by kernel_rfl) (by kernel_rfl) ?_;refine amM ?_)
      refine amGo ?_
      rw [hat,← hof,hst]
      refine ⟨x+1,by omega,by omega,.inl ?_⟩
      ((try simp only [xk]);(repeat (refine leK_cons ?_ ?_;first | (exact amE) | rotate_left));(try exact leK_nil rfl);(all_goals (try (simp only [xr,simprocAttr];try refine int_eq1 ?_))))
    · have he:=of_decide_eq_false he
      have hx':x=m.length:=by omega
      subst hx'
      refine amGo ?_
      refine ⟨t+1,by omega,by omega,.inl ?_⟩
      ((try simp only [xk]);(repeat (refine leK_cons ?_ ?_;first | (exact amE) | rotate_left));(refine leK_nil ?_;exact (by rw [rowW_next]));(all_goals (try (simp only [xr,simprocAttr];try refine int_eq1 ?_))))
  · have hc:=of_decide_eq_false hc
    have ht':t=(srv s m.length r).length:=by omega
    subst ht'
    rw [rowW_all hp hw hB hr]
    refine amGo ?_
    (simp only [ends_normal,ends_ret];refine retH_1 [1] rfl ⟨rfl,trivial⟩ rfl rfl rfl rfl rfl ?_;try rfl)
theorem clone_d (w:List Int) (hw:0<w.length) (hw2:w.length≤1000):Does Try.prog 68 [.sl (.ints w)] (.imm (.sl (.ints w))):=by
  refine spec_imm Try.func68 rfl Try.ntmps68 cfOK (fun _ _=>by kernel_rfl) rfl (Nat.le_of_ble_eq_true rfl) ?_
  intro M0 w0
  rw [Try.results68]
  (refine awp_fits 0 rfl fun hf => ?_;simp only [xp,simprocAttr] at hf;simp only [xf,simprocAttr] at hf)
  refine amGo ?_
  refine awp_cond amQ (fun hc => ?_) (fun hc => ?_)
  · cases hc
  refine amGoR ?_
  (refine awp_frz 0 rfl ?_;simp only [xz,simprocAttr])
  refine amGo ?_
  (simp only [xe,simprocAttr];refine ⟨_,rfl,rfl,Imp.eq ?_⟩)
  rfl
end Go.Proofs.Ytkcelmnbfbehbaa
