/- Runs of an algorithm, on the machine. Conditions: problems, algorithms and sequences that are right. -/
import Derived.Test.YtlhdeofkhajigaaGreatRU
import Derived.Test.YtlhdeofkhajigaaGreatGFR
import Derived.Test.YtlhdeofkhajigaaGreatGMI
import Derived.Test.YtlhdeofkhajigaaGreatGWI
set_option linter.all false
set_option linter.unusedSimpArgs false
set_option linter.unusedVariables false
namespace Go.Proofs.YtlhdeofkhajigaaGreat
open Go Go.RowKit Am

theorem run_at {m s next:List (List Int)} (ha:algB m s next=true) {x:Nat} (hx:x<m.length) {rs:List Int} (hq:reqsB s.length rs) {k:Nat} (hk:k<rs.length) :
    ∃ r:Nat,rs.getD k 0=r∧r<s.length∧endS next x (rs.take k)<m.length∧endS next x (rs.take (k+1))<m.length∧next.length=m.length∧(next.getD (endS next x (rs.take k)) []).length=s.length∧0≤at2 s r (endS next x (rs.take (k+1))) ∧
      (next.getD (endS next x (rs.take k)) []).getD (rs.getD k 0).toNat 0=(endS next x (rs.take (k+1)):Int)∧(next.getD (endS next x (rs.take k)) []).getD r 0=(endS next x (rs.take (k+1)):Int):=by
  obtain ⟨r,hr,hr'⟩:=hq.at hk
  have hlt:=endS_lt ha (rs.take k) x hx (hq.take k)
  obtain ⟨a1,a2,a3,a4,a5⟩:=alg_at ha hlt hr'
  rw [← hr] at a1 a2 a3
  rw [← endS_take hk] at a1 a2 a3
  refine ⟨r,hr,hr',hlt,a1,a5,a4,a3,?_,a2⟩
  rw [hr,Int.toNat_natCast]
  exact a2
theorem l8States_d (m s next:List (List Int)) (x:Nat) (rs:List Int) (ha:algB m s next=true) (hx:x<m.length) (hq:reqsB s.length rs) (hl:rs.length≤1000) :
    Does Tryz.prog 120 [.sl (.ii next),.int x,.sl (.ints rs)] (.imm (.sl (.ints (statesS next x rs)))):=by
  refine spec_imm Tryz.func120 rfl Tryz.ntmps120 cfOK (fun _ _=>by kernel_rfl) rfl (Nat.le_of_ble_eq_true rfl) ?_
  intro M0 w0
  rw [Tryz.results120]
  refine amGo ?_
  refine awp_rounds (α:=Nat) (fun k=>[(9,true,.int k),(8,true,.int (endS next x (rs.take k)))]) [0,2,7] (fun k=>[.row 3 (.ints (statesS next x (rs.take k)))]) (fun k=>k≤rs.length) (fun k=>rs.length-k) 0 (by ((try simp only [xk]);(repeat (refine leK_cons ?_ ?_;first | (exact amE) | rotate_left));(try exact leK_nil rfl);(all_goals (try (simp only [xr,simprocAttr];try refine int_eq1 ?_))))) (Nat.zero_le _) fun k hk => ?_
  have hsl:=statesS_len (next:=next) x (rs.take k)
  rw [List.length_take] at hsl
  simp only [xr,simprocAttr]
  refine amGo ?_
  refine awp_cond amQ (fun hc => ?_) (fun hc => ?_)
  · have hk':k<rs.length:=by have hc:=of_decide_eq_true hc;omega
    obtain ⟨r,hr,hr',hlt,hlt2,h1,h2,h3,h4,h5⟩:=run_at ha hx hq hk'
    refine amGo ?_
    rw [h4]
    refine ⟨k+1,by omega,by omega,.inl ?_⟩
    ((try simp only [xk]);(repeat (refine leK_cons ?_ ?_;first | (exact amE) | rotate_left));(refine leK_nil ?_;exact (by rw [statesS_take hk']));(all_goals (try (simp only [xr,simprocAttr];try refine int_eq1 ?_))))
  · have hk':k=rs.length:=by have hc:=of_decide_eq_false hc;omega
    subst hk'
    refine amGoR ?_
    (refine awp_frz 0 rfl ?_;simp only [xz,simprocAttr])
    refine amGo ?_
    (simp only [xe,simprocAttr];refine ⟨_,rfl,rfl,Imp.eq ?_⟩)
    rw [List.take_length]
theorem ran_d (m s next:List (List Int)) (x:Nat) (rs:List Int) (hp:probB m s=true) (ha:algB m s next=true) (hx:x<m.length) (hq:reqsB s.length rs) (hl:rs.length≤1000) :
    Does Tryz.prog 59 [prA m s,.sl (.ii next),.int x,.sl (.ints rs)] (.imm (.tup [.one (.b (.sl (.ints (statesS next x rs)))),.one (.b (.val (.int .i64 (costS m s next x rs))))])):=by
  refine spec_imm Tryz.func59 rfl Tryz.ntmps59 cfOK (fun _ _=>by kernel_rfl) rfl (Nat.le_of_ble_eq_true rfl) ?_
  intro M0 w0
  rw [Tryz.results59]
  refine amGo ?_
  refine awp_rounds (α:=Nat) (fun k=>[(18,true,.int k),(11,true,.int (costS m s next x (rs.take k))),(2,true,.int (endS next x (rs.take k)))]) [1,4,10,16,17] (fun k=>[.box [.b (.sl (.ii m)),.b (.sl (.ii s))],.row 3 (.ints (statesS next x (rs.take k)))]) (fun k=>k≤rs.length) (fun k=>rs.length-k) 0 (by ((try simp only [xk]);(repeat (refine leK_cons ?_ ?_;first | (exact amE) | rotate_left));(try exact leK_nil rfl);(all_goals (try (simp only [xr,simprocAttr];try refine int_eq1 ?_))))) (Nat.zero_le _) fun k hk => ?_
  have hsl:=statesS_len (next:=next) x (rs.take k)
  rw [List.length_take] at hsl
  simp only [xr,simprocAttr]
  refine amGo ?_
  refine awp_cond amQ (fun hc => ?_) (fun hc => ?_)
  · have hk':k<rs.length:=by have hc:=of_decide_eq_true hc;omega
    obtain ⟨r,hr,hr',hlt,hlt2,h1,h2,h3,h4,h5⟩:=run_at ha hx hq hk'
    have hc1:=costS_bd hp ha (rs.take k) x hx (hq.take k)
    rw [List.length_take] at hc1
    have h8:=(prob_m hp hlt).2 _ hlt2
    have h10:=prob_s hp hr' _ hlt2
    have hstep:=costS_take (m:=m) (s:=s) (next:=next) (x:=x) hk'
    rw [hr,Int.toNat_natCast] at hstep
    refine amGo ?_
    ((try refine Or.inl ?_);refine ⟨_,(cost_i m s (endS next x (rs.take k)) (endS next x (rs.take (k+1))) r _ _ _ rfl h4 hr hp hlt hlt2 hr'),.inl rfl,?_⟩;refine amC ?_)
    refine amGo ?_
    rw [h4]
    refine ⟨k+1,by omega,by omega,.inl ?_⟩
    ((try simp only [xk]);(repeat (refine leK_cons ?_ ?_;first | (exact amE) | rotate_left));(refine leK_nil ?_;exact (by rw [statesS_take hk']));(all_goals (try (simp only [xr,simprocAttr];try refine int_eq1 ?_))))
  · have hk':k=rs.length:=by have hc:=of_decide_eq_false hc;omega
    subst hk'
    refine amGoR ?_
    (refine awp_frz 1 rfl ?_;simp only [xz,simprocAttr])
    refine amGo ?_
    (simp only [xe,simprocAttr];refine ⟨[_,_],⟨rfl,rfl,trivial⟩,rfl,Imp.eq ?_⟩)
    rw [List.take_length]
end Go.Proofs.YtlhdeofkhajigaaGreat
/- The costs of mixtures, on the machine. Conditions: problems, mixtures and sequences that are right. -/
set_option linter.all false
set_option linter.unusedSimpArgs false
set_option linter.unusedVariables false
namespace Go.Proofs.YtlhdeofkhajigaaGreat
open Go Go.RowKit Am

end Go.Proofs.YtlhdeofkhajigaaGreat
/- What the law on mixtures calls, on the machine. Conditions: problems, algorithms and sequences that are right. -/
set_option linter.all false
set_option linter.unusedSimpArgs false
set_option linter.unusedVariables false
namespace Go.Proofs.YtlhdeofkhajigaaGreat
open Go Go.RowKit Am

theorem algCost_d {m s next:List (List Int)} {x:Nat} {rs:List Int} (ht:takesB m s x rs=true) (hp:probB m s=true) (ha:algB m s next=true) (hx:x<m.length) (hq:reqsB s.length rs) (hl:rs.length≤60) :
    Does Tryz.prog 17 [prA m s,.sl (.ii next),.int x,.sl (.ints rs)] (.imm (.tup [.one (.b (.val (.int .i64 (costS m s next x rs)))),.one (.b (.val (.bool true)))])):=by
  refine spec_imm Tryz.func17 rfl Tryz.ntmps17 cfOK (fun _ _=>by kernel_rfl) rfl (Nat.le_of_ble_eq_true rfl) ?_
  intro M0 w0
  rw [Tryz.results17]
  refine amGo ?_
  ((try refine Or.inl ?_);refine ⟨_,(isStarted_d m s x rs),.inl rfl,?_⟩;refine amC ?_)
  rw [ht]
  ((try refine Or.inl ?_);refine ⟨_,(fun _=>isAlgorithm_d m s next (prob_rows hp)),.inl rfl,?_⟩;refine amC ?_)
  rw [ha]
  refine amGo ?_
  refine awp_cond amQ (fun hc => ?_) (fun hc => ?_)
  · simp at hc
  refine amGo ?_
  ((try refine Or.inl ?_);refine ⟨_,(ran_d m s next x rs hp ha hx hq (by omega)),amF,?_⟩;refine amC ?_)
  refine amGo ?_
  (simp only [xec,simprocAttr];refine ⟨[_,_],⟨rfl,rfl,trivial⟩,rfl,Imp.eq ?_⟩)
  rfl
theorem leastCost_x {m s:List (List Int)} {x:Nat} {rs:List Int} (ht:takesB m s x rs=true) (hp:probB m s=true) (hx:x<m.length) (hq:reqsB s.length rs) (hl:rs.length≤60) :
    Does Tryz.prog 18 [prA m s,.int x,.sl (.ints rs)] (.imm (.tup [.one (.b (.val (.int .i64 (optM m s x rs)))),.one (.b (.val (.bool true)))])):=by
  refine spec_imm Tryz.func18 rfl Tryz.ntmps18 cfOK (fun _ _=>by kernel_rfl) rfl (Nat.le_of_ble_eq_true rfl) ?_
  intro M0 w0
  rw [Tryz.results18]
  refine amGo ?_
  ((try refine Or.inl ?_);refine ⟨_,(isStarted_d m s x rs),.inl rfl,?_⟩;refine amC ?_)
  rw [ht]
  refine amGo ?_
  refine awp_cond amQ (fun hc => ?_) (fun hc => ?_)
  · simp at hc
  refine amGo ?_
  ((try refine Or.inl ?_);refine ⟨_,(leastCost_d m s x rs hp hx hq (by omega)),.inl rfl,?_⟩;refine amC ?_)
  refine amGo ?_
  (simp only [xec,simprocAttr];refine ⟨[_,_],⟨rfl,rfl,trivial⟩,rfl,Imp.eq ?_⟩)
  rfl
end Go.Proofs.YtlhdeofkhajigaaGreat
