/- The closure of FindCycle, on the machine. Conditions: edges that lead to pairs, and gains that are not large. -/
import Derived.Test.YtlhdeofkhajigaaGreatCB
set_option linter.all false
set_option linter.unusedSimpArgs false
set_option linter.unusedVariables false
namespace Go.Proofs.YtlhdeofkhajigaaGreat
open Go Go.RowKit Am

/-- a walk that leads back with a gain -/
def goodE (a:Int×Int) (E:List (List Int)) (K p:Nat) (rs:List Int):Bool:=decide ((afterE E K p rs:Int)=(p:Int)) && decide (0<gainE a E K p rs)
abbrev bxX (L E:List (List Int)) (K:Nat):Ob := .box [.ip [.sl (.k 2 L),.sl (.k 4 E),.val (.int .i64 K)] 0]
abbrev capF (a:Int×Int) (p:Nat):List AV:=[.lf (.own 0),.lf (.ptr 1 0),.lf (.ptr 2 0),.lf (.ip [.val (.int .i64 p)] 0),.lf (.ip [.val (.int .i64 a.1),.val (.int .i64 a.2)] 0)]
set_option maxHeartbeats 2000000 in
theorem find1_n {L E:List (List Int)} {K N:Nat} (h:EdOK E K N) {a:Int×Int} (hg:GnOK a E) {p:Nat} (hp:p<N) {rs:List Int} (hq:reqsB K rs) (hl:rs.length≤60) (hb:goodE a E K p rs=false):DoesH Tryz.prog 74 (capF a p) [true,true,true] [.row 3 (.ints rs),bxN,bxX L E K] (.tup []) [.row 3 (.ints rs),bxN,bxX L E K]:=by
  refine spec_hB Tryz.func74 rfl Tryz.ntmps74 cfOK (fun _ _=>by kernel_rfl) rfl rfl rfl ?_
  intro M0 w0 S φ0
  rw [Tryz.results74]
  (refine awp_fits 0 rfl fun hf => ?_;simp only [xp,simprocAttr] at hf;simp only [xf,simprocAttr] at hf)
  refine amGo ?_
  ((try refine Or.inl ?_);refine ⟨_,(after_d h hp hq (by omega)),.inl rfl,?_⟩;refine amC ?_)
  refine amGo ?_
  ((try refine Or.inl ?_);refine ⟨_,(fun _=>cycleGain_d h hg hp hq hl),.inl rfl,?_⟩;refine amC ?_)
  refine amGo ?_
  refine awp_cond amQ (fun hc => ?_) (fun hc => ?_)
  · exfalso
    revert hb hc
    unfold goodE
    cases decide ((afterE E K p rs:Int)=(p:Int))<;>cases decide (0<gainE a E K p rs)<;>simp
  · refine amGo ?_
    (simp only [ends_normal,ends_ret];exact retH_0 [0,1,2] rfl ⟨rfl,rfl,rfl,trivial⟩ rfl rfl rfl)
set_option maxHeartbeats 2000000 in
theorem find1_y {L E:List (List Int)} {K N:Nat} (h:EdOK E K N) {a:Int×Int} (hg:GnOK a E) {p:Nat} (hp:p<N) {rs:List Int} (hq:reqsB K rs) (hl:rs.length≤60) (h0:0<rs.length) (hb:goodE a E K p rs=true) {w:List Int} (hw:w=rs):DoesH Tryz.prog 74 (capF a p) [true,true,true] [.row 3 (.ints rs),bxN,bxX L E K] (.tup []) [.row 3 (.ints rs),.box [.own 3],bxX L E K,.row 3 (.ints w)]:=by
  subst hw
  refine spec_hB Tryz.func74 rfl Tryz.ntmps74 cfOK (fun _ _=>by kernel_rfl) rfl rfl rfl ?_
  intro M0 w0 S φ0
  rw [Tryz.results74]
  (refine awp_fits 0 rfl fun hf => ?_;simp only [xp,simprocAttr] at hf;simp only [xf,simprocAttr] at hf)
  refine amGo ?_
  ((try refine Or.inl ?_);refine ⟨_,(after_d h hp hq (by omega)),.inl rfl,?_⟩;refine amC ?_)
  refine amGo ?_
  ((try refine Or.inl ?_);refine ⟨_,(fun _=>cycleGain_d h hg hp hq hl),.inl rfl,?_⟩;refine amC ?_)
  refine amGo ?_
  refine awp_cond amQ (fun hc => ?_) (fun hc => ?_)
  · refine amGo ?_
    (refine .inr (.inl (callW_b (clone_h w (by omega) h0) rfl rfl rfl rfl rfl rfl rfl ?_));refine amC ?_)
    refine amGo ?_
    (simp only [ends_normal,ends_ret];exact retH_0 [0,1,2,3] rfl ⟨rfl,rfl,rfl,rfl,trivial⟩ rfl rfl rfl)
  · exfalso
    revert hb hc
    unfold goodE
    cases decide ((afterE E K p w:Int)=(p:Int))<;>cases decide (0<gainE a E K p w)<;>simp
set_option maxHeartbeats 2000000 in
theorem find1_f {L E:List (List Int)} {K N:Nat} (h:EdOK E K N) {a:Int×Int} (hg:GnOK a E) {p:Nat} (hp:p<N) {rs w:List Int} (hq:reqsB K rs) (hl:rs.length≤60) (h0:0<w.length) (hw:w.length≤60):DoesH Tryz.prog 74 (capF a p) [true,true,true,true] [.row 3 (.ints rs),.box [.own 3],bxX L E K,.row 3 (.ints w)] (.tup []) [.row 3 (.ints rs),.box [.own 3],bxX L E K,.row 3 (.ints w)]:=by
  refine spec_hB Tryz.func74 rfl Tryz.ntmps74 cfOK (fun _ _=>by kernel_rfl) rfl rfl rfl ?_
  intro M0 w0 S φ0
  rw [Tryz.results74]
  (refine awp_fits 0 rfl fun hf => ?_;simp only [xp,simprocAttr] at hf;simp only [xf,simprocAttr] at hf)
  refine amGo ?_
  refine ⟨AV.int 0,.inl rfl,?_⟩
  simp only [xr,simprocAttr]
  refine amGo ?_
  refine ⟨AV.int 0,.inl rfl,?_⟩
  simp only [xr,simprocAttr]
  refine amGo ?_
  refine awp_cond amQ (fun hc => ?_) (fun hc => ?_)
  · cases hc
  refine amGo ?_
  (simp only [ends_normal,ends_ret];exact retH_0 [0,1,2,3] rfl ⟨rfl,rfl,rfl,rfl,trivial⟩ rfl rfl rfl)
end Go.Proofs.YtlhdeofkhajigaaGreat
/- All sequences with the closure of FindCycle, on the machine. Conditions: edges that lead to pairs, and gains that are not large. -/
set_option linter.all false
set_option linter.unusedSimpArgs false
set_option linter.unusedVariables false
namespace Go.Proofs.YtlhdeofkhajigaaGreat
open Go Go.RowKit Am

/-- the first of the first k sequences that is good -/
def preS (b n:Nat) (p:List Int→Bool) (k:Nat):Option (List Int):=((List.range k).find? fun k=>p (sq b n k)).map (sq b n)
theorem preS_some {b n:Nat} {p:List Int→Bool} {k:Nat} {w:List Int} (h:preS b n p k=some w):preS b n p (k+1)=some w:=by
  unfold preS at h ⊢
  rw [List.range_succ,List.find?_append]
  cases e:(List.range k).find? fun k=>p (sq b n k) with
  | none=>rw [e] at h;simp at h
  | some x=>rw [e] at h;simpa using h
theorem preS_new {b n:Nat} {p:List Int→Bool} {k:Nat} (h:preS b n p k=none):preS b n p (k+1)=bif p (sq b n k) then some (sq b n k) else none:=by
  unfold preS at h ⊢
  rw [List.range_succ,List.find?_append]
  cases e:(List.range k).find? fun k=>p (sq b n k) with
  | none=>cases e2:p (sq b n k)<;>simp [e2]
  | some x=>rw [e] at h;simp at h
theorem preS_len {b n:Nat} {p:List Int→Bool} {k:Nat} {w:List Int} (h:preS b n p k=some w):w.length=n:=by
  unfold preS at h
  cases e:(List.range k).find? fun k=>p (sq b n k) with
  | none=>rw [e] at h;simp at h
  | some x =>
    rw [e] at h
    have h:sq b n x=w:=by simpa using h
    rw [← h,sq_len]
abbrev stF (L E:List (List Int)) (K:Nat):Option (List Int)→List Ob
  | none=>[bxN,bxX L E K]
  | some w=>[.box [.own 2],bxX L E K,.row 3 (.ints w)]
abbrev stQ (L E:List (List Int)) (K:Nat) (r:List Int):Option (List Int)→List Ob
  | none=>[bxN,bxX L E K,.row 3 (.ints r)]
  | some w=>[.box [.own 3],bxX L E K,.row 3 (.ints r),.row 3 (.ints w)]
set_option maxHeartbeats 4000000 in
theorem sequencesF_h {L E:List (List Int)} {K N:Nat} (h:EdOK E K N) {a:Int×Int} (hg:GnOK a E) {p:Nat} (hp:p<N) {n:Nat} (hn:1≤n∧n≤6):DoesH Tryz.prog 73 [.int K,.int n,.clo 74 [.ptr 0 0,.ptr 1 0,.ip [.val (.int .i64 p)] 0,.ip [.val (.int .i64 a.1),.val (.int .i64 a.2)] 0]] [true,true] [bxN,bxX L E K] (.tup []) (stF L E K (firstS K n (goodE a E K p))):=by
  have hK1:=h.k.1
  have hK2:=h.k.2
  have hpos:0<K ^ n:=Nat.pow_pos (by omega)
  refine spec_hB Tryz.func73 rfl Tryz.ntmps73 cfOK (fun _ _=>by kernel_rfl) rfl rfl rfl ?_
  intro M0 w0 S φ0
  rw [Tryz.results73]
  refine amGo ?_
  rw [← sq_0 K n]
  refine awp_rounds (α:=Nat×Option (List Int)) (fun _=>[]) [0,1,2,6] (fun s=>stQ L E K (sq K n s.1) s.2) (fun s=>s.1<K ^ n∧s.2=preS K n (goodE a E K p) s.1) (fun s=>K ^ n-s.1) (0,none) (by ((try simp only [xk]);(repeat (refine leK_cons ?_ ?_;first | (exact amE) | rotate_left));(refine leK_nil ?_;exact (by rfl));(all_goals (try (simp only [xr,simprocAttr];try refine int_eq1 ?_))))) ⟨hpos,rfl⟩ fun s hs => ?_
  obtain ⟨k,o⟩:=s
  obtain ⟨hk,ho⟩:=hs
  simp only at hk ho
  have hl:=sq_len K n k
  have hq:=sq_reqs (n:=n) (k:=k) hK1
  cases o with
  | none =>
    dsimp only [stQ]
    have hpre:=preS_new ho.symm
    cases hb:goodE a E K p (sq K n k)
    · rw [hb] at hpre
      have hpre:preS K n (goodE a E K p) (k+1)=none:=hpre
      simp only [xr,simprocAttr]
      refine amGo ?_
      (refine .inr (.inl (callW_a [2,0,1] (find1_n h hg hp hq (by omega) hb) rfl rfl rfl rfl ⟨rfl,rfl,rfl,trivial⟩ rfl rfl rfl rfl ?_));refine amC ?_)
      refine amGo ?_
      rw [← sqT_0 K n k]
      refine awp_rounds (α:=Nat) (fun t=>[(7,true,.int ((n:Int)-1-(t:Int)))]) [0,1,2,6] (fun t=>[bxN,bxX L E K,.row 3 (.ints (sqT K n k t))]) (fun t=>t≤n∧nines K k t) (fun t=>n-t) 0 (by ((try simp only [xk]);(repeat (refine leK_cons ?_ ?_;first | (exact amE) | rotate_left));(refine leK_nil ?_;exact (by rw [sqT_0]));(all_goals (try (simp only [xr,simprocAttr];try refine int_eq1 ?_))))) ⟨Nat.zero_le _,nines_0 _ _⟩ fun t ht => ?_
      obtain ⟨ht,h9⟩:=ht
      have hq1:=sqT_len K n k t
      by_cases htn:t<n
      · have e:(n:Int)-1-(t:Int)=((n-1-t:Nat):Int):=by omega
        have hat:=sqT_at (b:=K) (k:=k) htn
        have hdl:=digS_le hK1 k t
        rw [e]
        simp only [xr,simprocAttr]
        refine amGo ?_
        rw [hat]
        refine awp_cond amQ (fun hc => ?_) (fun hc => ?_)
        · have hd:digS K k t+1=K:=by simp at hc;omega
          refine amGo ?_
          rw [sqT_next htn]
          rw [show ((n-1-t:Nat):Int)-1=(n:Int)-1-((t+1:Nat):Int) by omega]
          refine ⟨t+1,by omega,nines_next hK1 h9 hd,by omega,.inl ?_⟩
          ((try simp only [xk]);(repeat (refine leK_cons ?_ ?_;first | (exact amE) | rotate_left));(try exact leK_nil rfl);(all_goals (try (simp only [xr,simprocAttr];try refine int_eq1 ?_))))
        · have hd:digS K k t+1≠K:=by simp at hc;omega
          refine amGo ?_
          refine awp_cond amQ (fun hz => ?_) (fun hz => ?_)
          · exfalso
            simp at hz
            omega
          refine amGo ?_
          rw [hat,sqT_inc hK1 htn h9 hd]
          refine ⟨(k+1,none),nines_lt hK1 hk htn h9 hd,hpre.symm,by (show K ^ n-(k+1)<K ^ n-k);omega,.inl ?_⟩
          dsimp only [stQ]
          ((try simp only [xk]);(repeat (refine leK_cons ?_ ?_;first | (exact amE) | rotate_left));(try exact leK_nil rfl);(all_goals (try (simp only [xr,simprocAttr];try refine int_eq1 ?_))))
      · obtain rfl:t=n:=by omega
        have e:(t:Int)-1-(t:Int) = -1:=by omega
        have hfin:firstS K t (goodE a E K p)=none:=by
          show preS K t (goodE a E K p) (K ^ t)=_
          rw [← nines_all hK1 hk h9]
          exact hpre
        rw [e,hfin]
        dsimp only [stF]
        simp only [xr,simprocAttr]
        refine amGo ?_
        refine awp_cond amQ (fun hc => ?_) (fun hc => ?_)
        · simp at hc
        refine amGo ?_
        refine awp_cond amQ (fun hd => ?_) (fun hd => ?_)
        · refine amGo ?_
          (simp only [ends_normal,ends_ret];exact retH_0 [0,1] rfl ⟨rfl,rfl,trivial⟩ rfl rfl rfl)
        · simp at hd
    · rw [hb] at hpre
      obtain ⟨w,hw⟩:∃ w,w=sq K n k:=⟨_,rfl⟩
      have hpre:preS K n (goodE a E K p) (k+1)=some w:=by rw [hw];exact hpre
      have hwl:w.length=n:=by rw [hw,hl]
      simp only [xr,simprocAttr]
      refine amGo ?_
      (refine .inr (.inl (callW_a [2,0,1] (find1_y h hg hp hq (by omega) (by omega) hb hw) rfl rfl rfl rfl ⟨rfl,rfl,rfl,trivial⟩ rfl rfl rfl rfl ?_));refine amC ?_)
      refine amGo ?_
      rw [← sqT_0 K n k]
      refine awp_rounds (α:=Nat) (fun t=>[(7,true,.int ((n:Int)-1-(t:Int)))]) [0,1,2,6] (fun t=>[.box [.own 3],bxX L E K,.row 3 (.ints (sqT K n k t)),.row 3 (.ints w)]) (fun t=>t≤n∧nines K k t) (fun t=>n-t) 0 (by ((try simp only [xk]);(repeat (refine leK_cons ?_ ?_;first | (exact amE) | rotate_left));(refine leK_nil ?_;exact (by rw [sqT_0]));(all_goals (try (simp only [xr,simprocAttr];try refine int_eq1 ?_))))) ⟨Nat.zero_le _,nines_0 _ _⟩ fun t ht => ?_
      obtain ⟨ht,h9⟩:=ht
      have hq1:=sqT_len K n k t
      by_cases htn:t<n
      · have e:(n:Int)-1-(t:Int)=((n-1-t:Nat):Int):=by omega
        have hat:=sqT_at (b:=K) (k:=k) htn
        have hdl:=digS_le hK1 k t
        rw [e]
        simp only [xr,simprocAttr]
        refine amGo ?_
        rw [hat]
        refine awp_cond amQ (fun hc => ?_) (fun hc => ?_)
        · have hd:digS K k t+1=K:=by simp at hc;omega
          refine amGo ?_
          rw [sqT_next htn]
          rw [show ((n-1-t:Nat):Int)-1=(n:Int)-1-((t+1:Nat):Int) by omega]
          refine ⟨t+1,by omega,nines_next hK1 h9 hd,by omega,.inl ?_⟩
          ((try simp only [xk]);(repeat (refine leK_cons ?_ ?_;first | (exact amE) | rotate_left));(try exact leK_nil rfl);(all_goals (try (simp only [xr,simprocAttr];try refine int_eq1 ?_))))
        · have hd:digS K k t+1≠K:=by simp at hc;omega
          refine amGo ?_
          refine awp_cond amQ (fun hz => ?_) (fun hz => ?_)
          · exfalso
            simp at hz
            omega
          refine amGo ?_
          rw [hat,sqT_inc hK1 htn h9 hd]
          refine ⟨(k+1,(some w)),nines_lt hK1 hk htn h9 hd,hpre.symm,by (show K ^ n-(k+1)<K ^ n-k);omega,.inl ?_⟩
          dsimp only [stQ]
          ((try simp only [xk]);(repeat (refine leK_cons ?_ ?_;first | (exact amE) | rotate_left));(try exact leK_nil rfl);(all_goals (try (simp only [xr,simprocAttr];try refine int_eq1 ?_))))
      · obtain rfl:t=n:=by omega
        have e:(t:Int)-1-(t:Int) = -1:=by omega
        have hfin:firstS K t (goodE a E K p)=(some w):=by
          show preS K t (goodE a E K p) (K ^ t)=_
          rw [← nines_all hK1 hk h9]
          exact hpre
        rw [e,hfin]
        dsimp only [stF]
        simp only [xr,simprocAttr]
        refine amGo ?_
        refine awp_cond amQ (fun hc => ?_) (fun hc => ?_)
        · simp at hc
        refine amGo ?_
        refine awp_cond amQ (fun hd => ?_) (fun hd => ?_)
        · refine amGo ?_
          (simp only [ends_normal,ends_ret];exact retH_0 [0,1,3] rfl ⟨rfl,rfl,rfl,trivial⟩ rfl rfl rfl)
        · simp at hd
  | some w =>
    dsimp only [stQ]
    have hpre:=preS_some ho.symm
    have hwl:=preS_len ho.symm
    simp only [xr,simprocAttr]
    refine amGo ?_
    (refine .inr (.inl (callW_a [2,0,1,3] (find1_f h hg hp hq (by omega) (by omega) (by omega)) rfl rfl rfl rfl ⟨rfl,rfl,rfl,rfl,trivial⟩ rfl rfl rfl rfl ?_));refine amC ?_)
    refine amGo ?_
    rw [← sqT_0 K n k]
    refine awp_rounds (α:=Nat) (fun t=>[(7,true,.int ((n:Int)-1-(t:Int)))]) [0,1,2,6] (fun t=>[.box [.own 3],bxX L E K,.row 3 (.ints (sqT K n k t)),.row 3 (.ints w)]) (fun t=>t≤n∧nines K k t) (fun t=>n-t) 0 (by ((try simp only [xk]);(repeat (refine leK_cons ?_ ?_;first | (exact amE) | rotate_left));(refine leK_nil ?_;exact (by rw [sqT_0]));(all_goals (try (simp only [xr,simprocAttr];try refine int_eq1 ?_))))) ⟨Nat.zero_le _,nines_0 _ _⟩ fun t ht => ?_
    obtain ⟨ht,h9⟩:=ht
    have hq1:=sqT_len K n k t
    by_cases htn:t<n
    · have e:(n:Int)-1-(t:Int)=((n-1-t:Nat):Int):=by omega
      have hat:=sqT_at (b:=K) (k:=k) htn
      have hdl:=digS_le hK1 k t
      rw [e]
      simp only [xr,simprocAttr]
      refine amGo ?_
      rw [hat]
      refine awp_cond amQ (fun hc => ?_) (fun hc => ?_)
      · have hd:digS K k t+1=K:=by simp at hc;omega
        refine amGo ?_
        rw [sqT_next htn]
        rw [show ((n-1-t:Nat):Int)-1=(n:Int)-1-((t+1:Nat):Int) by omega]
        refine ⟨t+1,by omega,nines_next hK1 h9 hd,by omega,.inl ?_⟩
        ((try simp only [xk]);(repeat (refine leK_cons ?_ ?_;first | (exact amE) | rotate_left));(try exact leK_nil rfl);(all_goals (try (simp only [xr,simprocAttr];try refine int_eq1 ?_))))
      · have hd:digS K k t+1≠K:=by simp at hc;omega
        refine amGo ?_
        refine awp_cond amQ (fun hz => ?_) (fun hz => ?_)
        · exfalso
          simp at hz
          omega
        refine amGo ?_
        rw [hat,sqT_inc hK1 htn h9 hd]
        refine ⟨(k+1,(some w)),nines_lt hK1 hk htn h9 hd,hpre.symm,by (show K ^ n-(k+1)<K ^ n-k);omega,.inl ?_⟩
        dsimp only [stQ]
        ((try simp only [xk]);(repeat (refine leK_cons ?_ ?_;first | (exact amE) | rotate_left));(try exact leK_nil rfl);(all_goals (try (simp only [xr,simprocAttr];try refine int_eq1 ?_))))
    · obtain rfl:t=n:=by omega
      have e:(t:Int)-1-(t:Int) = -1:=by omega
      have hfin:firstS K t (goodE a E K p)=(some w):=by
        show preS K t (goodE a E K p) (K ^ t)=_
        rw [← nines_all hK1 hk h9]
        exact hpre
      rw [e,hfin]
      dsimp only [stF]
      simp only [xr,simprocAttr]
      refine amGo ?_
      refine awp_cond amQ (fun hc => ?_) (fun hc => ?_)
      · simp at hc
      refine amGo ?_
      refine awp_cond amQ (fun hd => ?_) (fun hd => ?_)
      · refine amGo ?_
        (simp only [ends_normal,ends_ret];exact retH_0 [0,1,3] rfl ⟨rfl,rfl,rfl,trivial⟩ rfl rfl rfl)
      · simp at hd
end Go.Proofs.YtlhdeofkhajigaaGreat
