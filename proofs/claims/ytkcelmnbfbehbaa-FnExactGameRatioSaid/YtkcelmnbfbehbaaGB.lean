/- Positions of games on the machine: where one lies in a list. Conditions: positions of two numbers. -/
import Derived.Test.YtkcelmnbfbehbaaOF
import Derived.Test.YtkcelmnbfbehbaaGA
set_option linter.all false
set_option linter.unusedSimpArgs false
set_option linter.unusedVariables false
namespace Go.Proofs.Ytkcelmnbfbehbaa
open Go Go.RowKit Am

theorem two_of {l:List (List Int)} (h:∀ p∈l,p.length=2) {k:Nat} (hk:k<l.length):[(l.getD k []).getD 0 0,(l.getD k []).getD 1 0]=l[k]:=by
  rw [getD_in hk]
  have h2:=h _ (List.getElem_mem hk)
  match e:l[k],h2 with
  | [a,b],_=>rfl
theorem index2_d (l:List (List Int)) (a b:Int) (hl:∀ p∈l,p.length=2):Does Try.prog 44 [.sl (.k 2 l),.tv (.agg [.b (.val (.int .i64 a)),.b (.val (.int .i64 b))])] (.imm (.int (whereT l [a,b]))):=by
  refine spec_imm Try.func44 rfl Try.ntmps44 cfOK (fun _ _=>by kernel_rfl) rfl (Nat.le_of_ble_eq_true rfl) ?_
  intro M0 w0
  rw [Try.results44]
  (refine awp_fits 0 rfl fun hf => ?_;simp only [xp,simprocAttr] at hf;simp only [xf,simprocAttr] at hf)
  refine amGo ?_
  refine awp_rounds (α:=Nat) (fun k=>[(8,true,.int k)]) [0,3,6,7] (fun _=>[.box [.b (.val (.int .i64 a)),.b (.val (.int .i64 b))]]) (fun k=>k≤l.length∧∀ x∈l.take k,decide (x=[a,b])=false) (fun k=>l.length-k) 0 (by ((try simp only [xk]);(repeat (refine leK_cons ?_ ?_;first | (exact amE) | rotate_left));(try exact leK_nil rfl);(all_goals (try (simp only [xr,simprocAttr];try refine int_eq1 ?_))))) ⟨Nat.zero_le _,by simp⟩ fun k hk => ?_
  obtain ⟨hk,hp⟩:=hk
  simp only [xr,simprocAttr]
  refine amGo ?_
  refine awp_cond amQ (fun hc => ?_) (fun hc => ?_)
  · have hk':k<l.length:=by simpa using hc
    have h2:=two_of hl hk'
    refine amGo ?_
    refine awp_cond amQ (fun hd => ?_) (fun hd => ?_)
    · have hd:=of_decide_eq_true hd
      have e:whereT l [a,b]=k:=idxOf_some hk' (by rw [← h2,hd];simp) hp
      refine amGo ?_
      (simp only [xe,simprocAttr];refine ⟨_,rfl,rfl,Imp.eq ?_⟩)
      rw [e]
    · have hd:=of_decide_eq_false hd
      refine amGo ?_
      refine ⟨k+1,by omega,fun x hx' => ?_,by omega,.inl ?_⟩
      · rw [List.take_succ_eq_append_getElem hk',List.mem_append,List.mem_singleton] at hx'
        rcases hx' with hx' | rfl
        · exact hp x hx'
        · rw [← h2];exact decide_eq_false fun e=>hd e.symm
      · ((try simp only [xk]);(repeat (refine leK_cons ?_ ?_;first | (exact amE) | rotate_left));(try exact leK_nil rfl);(all_goals (try (simp only [xr,simprocAttr];try refine int_eq1 ?_))))
  · have hk':k=l.length:=by simp at hc;omega
    subst hk'
    rw [List.take_length] at hp
    have e:whereT l [a,b] = -1:=idxOf_none hp
    refine amGo ?_
    (simp only [xe,simprocAttr];refine ⟨_,rfl,rfl,Imp.eq ?_⟩)
    rw [e]
theorem l10At_d (l:List (List Int)) (a b:Int) (hl:∀ p∈l,p.length=2):Does Try.prog 58 [.sl (.k 2 l),.tv (.agg [.b (.val (.int .i64 a)),.b (.val (.int .i64 b))])] (.imm (.int (posT l [a,b]))):=by
  refine spec_imm Try.func58 rfl Try.ntmps58 cfOK (fun _ _=>by kernel_rfl) rfl (Nat.le_of_ble_eq_true rfl) ?_
  intro M0 w0
  rw [Try.results58]
  (refine awp_fits 0 rfl fun hf => ?_;simp only [xp,simprocAttr] at hf;simp only [xf,simprocAttr] at hf)
  refine amGo ?_
  refine awp_rounds (α:=Nat) (fun k=>[(5,true,.int k)]) [0,3] (fun _=>[.box [.b (.val (.int .i64 a)),.b (.val (.int .i64 b))]]) (fun k=>k≤l.length∧∀ x∈l.take k,decide (x=[a,b])=false) (fun k=>l.length-k) 0 (by ((try simp only [xk]);(repeat (refine leK_cons ?_ ?_;first | (exact amE) | rotate_left));(try exact leK_nil rfl);(all_goals (try (simp only [xr,simprocAttr];try refine int_eq1 ?_))))) ⟨Nat.zero_le _,by simp⟩ fun k hk => ?_
  obtain ⟨hk,hp⟩:=hk
  simp only [xr,simprocAttr]
  refine amGo ?_
  refine awp_cond amQ (fun hc => ?_) (fun hc => ?_)
  · have hk':k<l.length:=by
      by_cases h:(k:Int)<l.length
      · omega
      · rw [decide_eq_false h] at hc;cases hc
    rw [decide_eq_true (show (k:Int)<l.length by omega),two_of hl hk'] at hc
    have hd:decide (l[k]=[a,b])=false:=by simpa using hc
    refine amGo ?_
    refine ⟨k+1,by omega,fun x hx' => ?_,by omega,.inl ?_⟩
    · rw [List.take_succ_eq_append_getElem hk',List.mem_append,List.mem_singleton] at hx'
      rcases hx' with hx' | rfl
      · exact hp x hx'
      · exact hd
    · ((try simp only [xk]);(repeat (refine leK_cons ?_ ?_;first | (exact amE) | rotate_left));(try exact leK_nil rfl);(all_goals (try (simp only [xr,simprocAttr];try refine int_eq1 ?_))))
  · refine amGo ?_
    (simp only [xe,simprocAttr];refine ⟨_,rfl,rfl,Imp.eq ?_⟩)
    by_cases h:k<l.length
    · rw [decide_eq_true (show (k:Int)<l.length by omega),two_of hl h] at hc
      have hd:decide (l[k]=[a,b])=true:=by simpa using hc
      have e:whereT l [a,b]=k:=idxOf_some h hd hp
      unfold posT
      rw [e,if_neg (by omega)]
    · obtain rfl:k=l.length:=by omega
      rw [List.take_length] at hp
      have e:whereT l [a,b] = -1:=idxOf_none hp
      unfold posT
      rw [e,if_pos (by omega)]
def gmO (q:GmT×Bool):List Ob:=bif q.2 then [] else [.box [.own 1,.own 2],.row 74 (.k 2 q.1.list),.row 78 (.kii 6 q.1.ch)]
def gmR (q:GmT×Bool):AV:=bif q.2 then .tup [.one (.b (.val (.pointer none))),.one (.b (.val (.bool false)))] else .tup [.one (.ptr 0 0),.one (.b (.val (.bool true)))]
def gmQ (m s:List (List Int)) (x:Int):GmT×Bool:=bif takesB m s x [] then gm m s x.toNat else (⟨[],[]⟩,true)
theorem pos_len {n l:Nat} {p:List Int} (h:posOK n l p):p.length=2:=by
  obtain ⟨_,_,rfl,_⟩:=h
  rfl
theorem offsets_g {m s:List (List Int)} {x:Nat} (hp:probB m s=true) (hx:x<m.length) (h:(offs m s x).2=false):Does Try.prog 42 [prA m s,.int x] (.imm (.tup [.one (.b (.sl (.ii (offs m s x).1.list))),.one (.b (.sl (.ii (offs m s x).1.next))),.one (.b (.sl (.ii (offs m s x).1.grows))),.one (.b (.val (.bool true)))])):=by
  have:=offsets_d m s x hp hx
  unfold offV at this
  rw [h] at this
  exact this
theorem offsets_b {m s:List (List Int)} {x:Nat} (hp:probB m s=true) (hx:x<m.length) (h:(offs m s x).2=true):Does Try.prog 42 [prA m s,.int x] (.imm (.tup [.one (.b (.val (.slice none 0 0))),.one (.b (.val (.slice none 0 0))),.one (.b (.val (.slice none 0 0))),.one (.b (.val (.bool false)))])):=by
  have:=offsets_d m s x hp hx
  unfold offV at this
  rw [h] at this
  exact this
set_option maxHeartbeats 2000000 in
theorem gameOf_h (m s:List (List Int)) (x:Int):DoesH Try.prog 25 [prA m s,.int x] [] [] (gmR (gmQ m s x)) (gmO (gmQ m s x)):=by
  refine spec_hB Try.func25 rfl Try.ntmps25 cfOK (fun _ _=>by kernel_rfl) rfl rfl rfl ?_
  intro M0 w0 S φ0
  rw [Try.results25]
  refine amGo ?_
  ((try refine Or.inl ?_);refine ⟨_,(isStarted_n _ _ _),.inl rfl,?_⟩;refine amC ?_)
  refine amGo ?_
  refine awp_cond amQ (fun hc => ?_) (fun hc => ?_)
  · have hc':takesB m s x []=false:=by simpa using hc
    have hq:gmQ m s x=(⟨[],[]⟩,true):=by unfold gmQ;rw [hc'];rfl
    rw [hq]
    refine amGo ?_
    (simp only [ends_normal,ends_ret];refine retH_2 (vs:=[_,_]) [] rfl trivial rfl rfl rfl rfl ⟨rfl,rfl,trivial⟩ ?_;try rfl)
  have hc':takesB m s x []=true:=by simpa using hc
  obtain ⟨hp,⟨y,rfl,hy⟩,-,-⟩:=takes_ok hc'
  have hq:gmQ m s y=gm m s y:=by unfold gmQ;rw [hc',Int.toNat_natCast];rfl
  rw [hq]
  have hl:=prob_len hp
  refine amGo ?_
  cases ho:(offs m s y).2
  · ((try refine Or.inl ?_);refine ⟨_,(offsets_g hp hy ho),amF,?_⟩;refine amC ?_)
    have ht:=tab_ok hp hy ho
    have hg0:gm m s y=gmRun m s (offs m s y).1 y 100 0:=by unfold gm;rw [ho];rfl
    rw [hg0]
    generalize (offs m s y).1=t at ht ho
    refine amGo ?_
    refine awp_cond amQ (fun hd => ?_) (fun hd => ?_)
    · cases hd
    (refine amB ?_;refine awp_regO [false,false,true] ?_;refine amN ?_)
    (refine awp_nil 2 1 78 (.kii 6 []) rfl rfl rfl (by first | trivial | (intro _ h;cases h)) ?_;simp only [xr,simprocAttr])
    refine amGo ?_
    refine awp_rounds (α:=Nat) (fun i=>[(11,true,.int i)]) [2,7,8,10] (fun i=>[.box [.b (.sl (.ii m)),.b (.sl (.ii s))],.row 74 (.k 2 (gmT m s t y i).list),.box [.own 1,.own 3],.row 78 (.kii 6 (gmT m s t y i).ch)]) (GmI m s t y) (fun i=>61-i) 0 (by ((try simp only [xk]);(repeat (refine leK_cons ?_ ?_;first | (exact amE) | rotate_left));(refine leK_nil ?_;exact (by rfl));(all_goals (try (simp only [xr,simprocAttr];try refine int_eq1 ?_))))) (GmI.first m s t y) fun i hi => ?_
    have hile:=hi.le
    have hlen:=hi.len
    have hok:=gmT_ok ht hy i hi.lt
    have hcl:=hok.clen
    simp only [xr,simprocAttr]
    refine amGo ?_
    refine awp_cond amQ (fun he => ?_) (fun he => ?_)
    · have he:=of_decide_eq_true he
      have hlt:i<(gmT m s t y i).list.length:=by omega
      obtain ⟨st,w,hpos,hst,hof,hsl,hwl⟩:=gm_at hok hlt
      have htl:=ht.nlen
      have htg:=ht.glen
      refine amGo ?_
      rw [hpos]
      simp only [xr,simprocAttr]
      refine amGo ?_
      refine awp_rounds (α:=Nat) (fun r=>[(69,true,.int r)]) [2,7,8,10,11,12,13,14,68] (fun r=>[.box [.b (.sl (.ii m)),.b (.sl (.ii s))],.row 74 (.k 2 (gmAll m s t i st w (gmT m s t y i).list r).1),.box [.own 1,.own 3],.row 78 (.kii 6 (gmT m s t y i).ch),.row 79 (.ki 6 (gmAll m s t i st w (gmT m s t y i).list r).2)]) (fun r=>r≤s.length) (fun r=>s.length-r) 0 (by ((try simp only [xk]);(repeat (refine leK_cons ?_ ?_;first | (exact amE) | rotate_left));(refine leK_nil ?_;exact (by rfl));(all_goals (try (simp only [xr,simprocAttr];try refine int_eq1 ?_))))) (Nat.zero_le _) fun r hr => ?_
      have hmul:r*m.length≤4*4:=Nat.mul_le_mul (by omega) (by omega)
      have hal:=gmAll_len m s t i st w (gmT m s t y i).list r
      have ham:=gmAll_mem ht hwl hok.el (i:=i) (st:=st) r hr
      simp only [xr,simprocAttr]
      refine amGo ?_
      refine awp_cond amQ (fun hd => ?_) (fun hd => ?_)
      · have hd:=of_decide_eq_true hd
        have hr':r<s.length:=by omega
        have hrow:=prob_rows hp r hr'
        have htw:=ht.row w hwl
        refine amGo ?_
        ((try refine Or.inl ?_);refine ⟨_,(served_d m s r hr' hrow (by omega)),amF,?_⟩;refine amC ?_)
        refine amGo ?_
        refine awp_rounds (α:=Nat) (fun k=>[(77,true,.int k)]) [2,7,8,10,11,12,13,14,15,16,68,69,75,76] (fun k=>[.box [.b (.sl (.ii m)),.b (.sl (.ii s))],.row 74 (.k 2 (gmRow m s t i st w r (gmAll m s t i st w (gmT m s t y i).list r).1 ((srv s m.length r).take k)).1),.box [.own 1,.own 3],.row 78 (.kii 6 (gmT m s t y i).ch),.row 79 (.ki 6 (gmAll m s t i st w (gmT m s t y i).list r).2),.row 86 (.k 6 (gmRow m s t i st w r (gmAll m s t i st w (gmT m s t y i).list r).1 ((srv s m.length r).take k)).2)]) (fun k=>k≤(srv s m.length r).length) (fun k=>(srv s m.length r).length-k) 0 (by ((try simp only [xk]);(repeat (refine leK_cons ?_ ?_;first | (exact amE) | rotate_left));(refine leK_nil ?_;exact (by rfl));(all_goals (try (simp only [xr,simprocAttr];try refine int_eq1 ?_))))) (Nat.zero_le _) fun k hk => ?_
        have hsl4:=srv_len s m.length r
        have hrl:=gmRow_len m s t i st w r (gmAll m s t i st w (gmT m s t y i).list r).1 ((srv s m.length r).take k)
        rw [List.length_take] at hrl
        have hrm:∀ p∈(gmRow m s t i st w r (gmAll m s t i st w (gmT m s t y i).list r).1 ((srv s m.length r).take k)).1,p.length=2:=fun p hp=>pos_len (gmFold_mem ht hwl hr' _ _ (fun u hu=>srv_ok m s r m.length (Nat.le_refl _) u (List.mem_of_mem_take hu)) ham p hp)
        simp only [xr,simprocAttr]
        refine amGo ?_
        refine awp_cond amQ (fun hf => ?_) (fun hf => ?_)
        · have hf:=of_decide_eq_true hf
          have hk':k<(srv s m.length r).length:=by omega
          obtain ⟨z,hz1,hz2,hz3⟩:=srv_mem hk'
          have hstep:gmRow m s t i st w r (gmAll m s t i st w (gmT m s t y i).list r).1 ((srv s m.length r).take (k+1))=gmStep m s t i st w r (gmRow m s t i st w r (gmAll m s t i st w (gmT m s t y i).list r).1 ((srv s m.length r).take k)) z:=by rw [take_getD hk' 0,hz1,gmRow_app]
          refine amGo ?_
          rw [hz1]
          refine amGo ?_
          ((try refine Or.inl ?_);refine ⟨_,(index2_d _ _ _ hrm),.inl rfl,?_⟩;refine amC ?_)
          refine amGo ?_
          refine awp_cond amQ (fun hg => ?_) (fun hg => ?_)
          · have hg:whereT (gmRow m s t i st w r (gmAll m s t i st w (gmT m s t y i).list r).1 ((srv s m.length r).take k)).1 [(z:Int),(t.next.getD w []).getD r 0]<0:=of_decide_eq_true hg
            refine amGo ?_
            (refine amB ?_;refine awp_anyM [1,2] 7 [4] (by kernel_rfl) (by kernel_rfl) (by kernel_rfl) (by kernel_rfl) (by kernel_rfl) ?_;refine amM ?_)
            refine amB ?_
            (refine awp_mv 1 7 rfl rfl (by decide) rfl rfl ?_;simp only [xm,simprocAttr])
            refine amGo ?_
            (refine amB ?_;refine awp_anyM [5] 20 [] (by kernel_rfl) (by kernel_rfl) (by kernel_rfl) (by kernel_rfl) (by kernel_rfl) ?_;refine amM ?_)
            ((try refine Or.inl ?_);refine ⟨_,(cost_i m s st z r _ _ _ rfl rfl rfl hp hsl hz2 hr'),.inl rfl,?_⟩;refine amC ?_)
            refine amB ?_
            (refine awp_mv 5 8 rfl rfl (by decide) rfl rfl ?_;simp only [xm,simprocAttr])
            refine amGo ?_
            refine ⟨k+1,by omega,by omega,.inr ⟨6,Nat.le_of_ble_eq_true rfl,leT_of ?_ rfl rfl rfl⟩⟩
            have h1:addT (gmRow m s t i st w r (gmAll m s t i st w (gmT m s t y i).list r).1 ((srv s m.length r).take k)).1 (keyG t w r z)=(gmRow m s t i st w r (gmAll m s t i st w (gmT m s t y i).list r).1 ((srv s m.length r).take k)).1++[keyG t w r z]:=if_pos hg
            have h2:posT (gmRow m s t i st w r (gmAll m s t i st w (gmT m s t y i).list r).1 ((srv s m.length r).take k)).1 (keyG t w r z)=((gmRow m s t i st w r (gmAll m s t i st w (gmT m s t y i).list r).1 ((srv s m.length r).take k)).1.length:Int):=if_pos hg
            ((try simp only [xk]);(repeat (refine leK_cons ?_ ?_;first | (exact amE) | rotate_left));(refine leK_nil ?_;exact (by rw [hstep];simp only [gmStep,chG,h1,h2,costG,growG,Int.toNat_natCast];rfl));(all_goals (try (simp only [xr,simprocAttr];try refine int_eq1 ?_))))
          · have hg:¬ whereT (gmRow m s t i st w r (gmAll m s t i st w (gmT m s t y i).list r).1 ((srv s m.length r).take k)).1 [(z:Int),(t.next.getD w []).getD r 0]<0:=of_decide_eq_false hg
            refine amGo ?_
            (refine amB ?_;refine awp_anyM [5] 20 [] (by kernel_rfl) (by kernel_rfl) (by kernel_rfl) (by kernel_rfl) (by kernel_rfl) ?_;refine amM ?_)
            ((try refine Or.inl ?_);refine ⟨_,(cost_i m s st z r _ _ _ rfl rfl rfl hp hsl hz2 hr'),.inl rfl,?_⟩;refine amC ?_)
            refine amB ?_
            (refine awp_mv 5 7 rfl rfl (by decide) rfl rfl ?_;simp only [xm,simprocAttr])
            refine amGo ?_
            refine ⟨k+1,by omega,by omega,.inr ⟨6,Nat.le_of_ble_eq_true rfl,leT_of ?_ rfl rfl rfl⟩⟩
            have h1:addT (gmRow m s t i st w r (gmAll m s t i st w (gmT m s t y i).list r).1 ((srv s m.length r).take k)).1 (keyG t w r z)=(gmRow m s t i st w r (gmAll m s t i st w (gmT m s t y i).list r).1 ((srv s m.length r).take k)).1:=if_neg hg
            have h2:posT (gmRow m s t i st w r (gmAll m s t i st w (gmT m s t y i).list r).1 ((srv s m.length r).take k)).1 (keyG t w r z)=whereT (gmRow m s t i st w r (gmAll m s t i st w (gmT m s t y i).list r).1 ((srv s m.length r).take k)).1 (keyG t w r z):=if_neg hg
            ((try simp only [xk]);(repeat (refine leK_cons ?_ ?_;first | (exact amE) | rotate_left));(refine leK_nil ?_;exact (by rw [hstep];simp only [gmStep,chG,h1,h2,costG,growG,Int.toNat_natCast];rfl));(all_goals (try (simp only [xr,simprocAttr];try refine int_eq1 ?_))))
        · have hf:=of_decide_eq_false hf
          have hk':k=(srv s m.length r).length:=by omega
          subst hk'
          refine amB ?_
          rw [List.take_length]
          (refine awp_frz 5 rfl ?_;simp only [xz,simprocAttr])
          refine amGo ?_
          refine ⟨r+1,by omega,by omega,.inr ⟨5,Nat.le_of_ble_eq_true rfl,leT_of ?_ rfl rfl rfl⟩⟩
          ((try simp only [xk]);(repeat (refine leK_cons ?_ ?_;first | (exact amE) | rotate_left));(refine leK_nil ?_;exact (by rfl));(all_goals (try (simp only [xr,simprocAttr];try refine int_eq1 ?_))))
      · have hd:=of_decide_eq_false hd
        have hr':r=s.length:=by omega
        subst hr'
        refine amB ?_
        (refine awp_frz 4 rfl ?_;simp only [xz,simprocAttr])
        refine amGo ?_
        refine awp_cond amQ (fun hg => ?_) (fun hg => ?_)
        · have hg:=of_decide_eq_true hg
          have hbig:60<(gmT m s t y (i+1)).list.length:=by simp only [gmT,hst,hof];omega
          rw [hi.large hlt hbig]
          refine amGo ?_
          (simp only [ends_normal,ends_ret];refine retH_2 (vs:=[_,_]) [] rfl trivial rfl rfl rfl rfl ⟨rfl,rfl,trivial⟩ ?_;try rfl)
        · have hg:=of_decide_eq_false hg
          have hbig:¬ 60<(gmT m s t y (i+1)).list.length:=by simp only [gmT,hst,hof];omega
          refine amGo ?_
          refine ⟨i+1,hi.next hlt hbig,by omega,.inr ⟨4,Nat.le_of_ble_eq_true rfl,leT_of ?_ rfl rfl rfl⟩⟩
          ((try simp only [xk]);(repeat (refine leK_cons ?_ ?_;first | (exact amE) | rotate_left));(refine leK_nil ?_;exact (by simp only [gmT,hst,hof];rfl));(all_goals (try (simp only [xr,simprocAttr];try refine int_eq1 ?_))))
    · have he:=of_decide_eq_false he
      rw [hi.done (by omega)]
      refine amGo ?_
      (simp only [ends_normal,ends_ret];refine retH_2 (vs:=[_,_]) [2,1,3] rfl ⟨rfl,rfl,rfl,trivial⟩ rfl rfl rfl rfl ⟨rfl,rfl,trivial⟩ ?_;try rfl)
  · ((try refine Or.inl ?_);refine ⟨_,(offsets_b hp hy ho),amF,?_⟩;refine amC ?_)
    have hq2:gm m s y=(⟨[[(y:Int),0]],[]⟩,true):=by unfold gm;rw [ho];rfl
    rw [hq2]
    refine amGo ?_
    refine awp_cond amQ (fun hd => ?_) (fun hd => ?_)
    · refine amGo ?_
      (simp only [ends_normal,ends_ret];refine retH_2 (vs:=[_,_]) [] rfl trivial rfl rfl rfl rfl ⟨rfl,rfl,trivial⟩ ?_;try rfl)
    · cases hd
end Go.Proofs.Ytkcelmnbfbehbaa
/- Games on the machine: the reference's. Conditions: none. -/
set_option linter.all false
set_option linter.unusedSimpArgs false
set_option linter.unusedVariables false
namespace Go.Proofs.Ytkcelmnbfbehbaa
open Go Go.RowKit Am

/-- what the reference keeps of a choice -/
def c4 (c:List Int):List Int:=[c.getD 5 0,c.getD 1 0,c.getD 2 0,c.getD 3 0]
def ch4 (ch:List (List (List (List Int)))):List (List (List (List Int))):=ch.map fun a=>a.map fun r=>r.map c4
def gmA (q:GmT×Bool):TV := .agg [.b (.sl (.k 2 q.1.list)),.b (.sl (.kii 4 (ch4 q.1.ch))),.b (.val (.bool q.2))]
theorem posT_new {l:List (List Int)} {x:List Int}:posT l x=(l.length:Int)↔whereT l x<0:=by
  unfold posT
  by_cases h:whereT l x<0
  · rw [if_pos h]
    exact ⟨fun _=>h,fun _=>rfl⟩
  · rw [if_neg h]
    obtain ⟨k,hk,h1,-⟩:=idxOf_lt (Int.not_lt.1 h)
    have h1:whereT l x=k:=h1
    omega
set_option maxHeartbeats 2000000 in
theorem l10Make_d (m s:List (List Int)) (y:Nat) (hp:probB m s=true) (hy:y<m.length):Does Try.prog 34 [prA m s,.int y] (.imm (.tv (gmA (gm m s y)))):=by
  have hl:=prob_len hp
  refine spec_imm Try.func34 rfl Try.ntmps34 cfOK (fun _ _=>by kernel_rfl) rfl (Nat.le_of_ble_eq_true rfl) ?_
  intro M0 w0
  rw [Try.results34]
  refine amGo ?_
  cases ho:(offs m s y).2
  · have ht:=tab_ok hp hy ho
    have hc:=l8All_d m s y hp hy
    unfold offA at hc
    rw [ho] at hc
    have hg0:gm m s y=gmRun m s (offs m s y).1 y 100 0:=by unfold gm;rw [ho];rfl
    rw [hg0]
    generalize (offs m s y).1=t at ht hc
    ((try refine Or.inl ?_);refine ⟨_,hc,amF,?_⟩;refine amC ?_)
    (refine amB ?_;refine awp_regO [false,false,true] ?_;refine amN ?_)
    (refine awp_nil 4 1 103 (.kii 4 []) rfl rfl rfl (by first | trivial | (intro _ h;cases h)) ?_;simp only [xr,simprocAttr])
    refine amGo ?_
    refine awp_rounds (α:=Nat×Bool) (fun p=>[(7,true,.int p.1)]) [2,4,5,6] (fun p=>[.box [.b (.sl (.ii m)),.b (.sl (.ii s))],.box [.b (.val (.slice none 0 0)),.b (.val (.slice none 0 0)),.b (.val (.bool false))],.box [.b (.sl (.ii t.list)),.b (.sl (.ii t.next)),.b (.sl (.ii t.grows)),.b (.val (.bool false))],.row 74 (.k 2 (gmT m s t y p.1).list),.box [.own 3,.own 5,.b (.val (.bool p.2))],.row 103 (.kii 4 (ch4 (gmT m s t y p.1).ch))]) (fun p=>(p.2=false∧GmI m s t y p.1)∨(p.2=true∧p.1≤61∧gmRun m s t y 100 0=(gmT m s t y p.1,true))) (fun p=>62-p.1) (0,false) (by ((try simp only [xk]);(repeat (refine leK_cons ?_ ?_;first | (exact amE) | rotate_left));(refine leK_nil ?_;exact (by rfl));(all_goals (try (simp only [xr,simprocAttr];try refine int_eq1 ?_))))) (.inl ⟨rfl,GmI.first m s t y⟩) fun p hi => ?_
    obtain ⟨i,bad⟩:=p
    rcases hi with ⟨hb,hi⟩ | ⟨hb,hb1,hb2⟩
    · simp only at hb hi
      subst hb
      have hile:=hi.le
      have hlen:=hi.len
      have hok:=gmT_ok ht hy i hi.lt
      have hcl:=hok.clen
      have hcl4:(ch4 (gmT m s t y i).ch).length=i:=by simp [ch4,hcl]
      simp only [xr,simprocAttr]
      refine amGo ?_
      refine awp_cond amQ (fun he => ?_) (fun he => ?_)
      · have hlt:i<(gmT m s t y i).list.length:=by
          by_cases h:(i:Int)<(gmT m s t y i).list.length
          · omega
          · rw [decide_eq_false h] at he;cases he
        obtain ⟨st,w,hpos,hst,hof,hsl,hwl⟩:=gm_at hok hlt
        have htl:=ht.nlen
        have htg:=ht.glen
        have hms:=prob_m hp hsl
        refine amGo ?_
        rw [hpos]
        simp only [xr,simprocAttr]
        refine amGo ?_
        refine awp_rounds (α:=Nat) (fun r=>[(11,true,.int r)]) [2,4,5,6,7,8,9,10] (fun r=>[.box [.b (.sl (.ii m)),.b (.sl (.ii s))],.box [.b (.val (.slice none 0 0)),.b (.val (.slice none 0 0)),.b (.val (.bool false))],.box [.b (.sl (.ii t.list)),.b (.sl (.ii t.next)),.b (.sl (.ii t.grows)),.b (.val (.bool false))],.row 74 (.k 2 (gmAll m s t i st w (gmT m s t y i).list r).1),.box [.own 3,.own 5,.b (.val (.bool false))],.row 103 (.kii 4 (ch4 (gmT m s t y i).ch)),.row 104 (.ki 4 ((gmAll m s t i st w (gmT m s t y i).list r).2.map fun a=>a.map c4))]) (fun r=>r≤s.length) (fun r=>s.length-r) 0 (by ((try simp only [xk]);(repeat (refine leK_cons ?_ ?_;first | (exact amE) | rotate_left));(refine leK_nil ?_;exact (by rfl));(all_goals (try (simp only [xr,simprocAttr];try refine int_eq1 ?_))))) (Nat.zero_le _) fun r hr => ?_
        have hmul:r*m.length≤4*4:=Nat.mul_le_mul (by omega) (by omega)
        have hal:=gmAll_len m s t i st w (gmT m s t y i).list r
        have ham:=gmAll_mem ht hwl hok.el (i:=i) (st:=st) r hr
        have hal4:((gmAll m s t i st w (gmT m s t y i).list r).2.map fun a=>a.map c4).length=r:=by rw [List.length_map,hal.2.2]
        simp only [xr,simprocAttr]
        refine amGo ?_
        refine awp_cond amQ (fun hd => ?_) (fun hd => ?_)
        · have hd:=of_decide_eq_true hd
          have hr':r<s.length:=by omega
          have hrow:=prob_rows hp r hr'
          have htw:=ht.row w hwl
          refine amGo ?_
          refine awp_rounds (α:=Nat) (fun u=>[(13,true,.int u)]) [2,4,5,6,7,8,9,10,11,12] (fun u=>[.box [.b (.sl (.ii m)),.b (.sl (.ii s))],.box [.b (.val (.slice none 0 0)),.b (.val (.slice none 0 0)),.b (.val (.bool false))],.box [.b (.sl (.ii t.list)),.b (.sl (.ii t.next)),.b (.sl (.ii t.grows)),.b (.val (.bool false))],.row 74 (.k 2 (gmRow m s t i st w r (gmAll m s t i st w (gmT m s t y i).list r).1 (srv s u r)).1),.box [.own 3,.own 5,.b (.val (.bool false))],.row 103 (.kii 4 (ch4 (gmT m s t y i).ch)),.row 104 (.ki 4 ((gmAll m s t i st w (gmT m s t y i).list r).2.map fun a=>a.map c4)),.row 106 (.k 4 ((gmRow m s t i st w r (gmAll m s t i st w (gmT m s t y i).list r).1 (srv s u r)).2.map c4))]) (fun u=>u≤m.length) (fun u=>m.length-u) 0 (by ((try simp only [xk]);(repeat (refine leK_cons ?_ ?_;first | (exact amE) | rotate_left));(refine leK_nil ?_;exact (by rfl));(all_goals (try (simp only [xr,simprocAttr];try refine int_eq1 ?_))))) (Nat.zero_le _) fun u hu => ?_
          have hsl4:=srv_len s u r
          have hrl:=gmRow_len m s t i st w r (gmAll m s t i st w (gmT m s t y i).list r).1 (srv s u r)
          have hrl4:((gmRow m s t i st w r (gmAll m s t i st w (gmT m s t y i).list r).1 (srv s u r)).2.map c4).length≤4:=by rw [List.length_map,hrl.2.2];omega
          have hrm:∀ p∈(gmRow m s t i st w r (gmAll m s t i st w (gmT m s t y i).list r).1 (srv s u r)).1,p.length=2:=fun p hp=>pos_len (gmFold_mem ht hwl hr' _ _ (srv_ok m s r u hu) ham p hp)
          simp only [xr,simprocAttr]
          refine amGo ?_
          refine awp_cond amQ (fun hf => ?_) (fun hf => ?_)
          · have hf:=of_decide_eq_true hf
            have hu':u<m.length:=by omega
            have hmu:=hms.2 u hu'
            have hsu:=prob_s hp hr' u hu'
            unfold at2 at hmu hsu
            refine amGo ?_
            refine awp_cond amQ (fun hn => ?_) (fun hn => ?_)
            · have hn:¬ 0≤at2 s r u:=by have hn:=of_decide_eq_true hn;unfold at2;omega
              have hsr:srv s (u+1) r=srv s u r:=by rw [srv_step,if_neg hn]
              refine amGo ?_
              refine ⟨u+1,by omega,by omega,.inl ?_⟩
              ((try simp only [xk]);(repeat (refine leK_cons ?_ ?_;first | (exact amE) | rotate_left));(refine leK_nil ?_;exact (by rw [hsr]));(all_goals (try (simp only [xr,simprocAttr];try refine int_eq1 ?_))))
            · have hn:0≤at2 s r u:=by have hn:=of_decide_eq_false hn;unfold at2;omega
              have hsr:srv s (u+1) r=srv s u r++[(u:Int)]:=by rw [srv_step,if_pos hn]
              refine amGo ?_
              ((try refine Or.inl ?_);refine ⟨_,(l10At_d _ _ _ hrm),.inl rfl,?_⟩;refine amC ?_)
              refine amGo ?_
              refine awp_cond amQ (fun hg => ?_) (fun hg => ?_)
              · have hg:whereT (gmRow m s t i st w r (gmAll m s t i st w (gmT m s t y i).list r).1 (srv s u r)).1 (keyG t w r u)<0:=posT_new.1 (of_decide_eq_true hg)
                have h1:addT (gmRow m s t i st w r (gmAll m s t i st w (gmT m s t y i).list r).1 (srv s u r)).1 (keyG t w r u)=(gmRow m s t i st w r (gmAll m s t i st w (gmT m s t y i).list r).1 (srv s u r)).1++[keyG t w r u]:=if_pos hg
                refine amGo ?_
                (refine amB ?_;refine awp_anyM [3,4] 13 [1] (by kernel_rfl) (by kernel_rfl) (by kernel_rfl) (by kernel_rfl) (by kernel_rfl) ?_;refine amM ?_)
                refine amB ?_
                (refine awp_mv 3 8 rfl rfl (by decide) rfl rfl ?_;simp only [xm,simprocAttr])
                refine amGo ?_
                (refine amB ?_;refine awp_anyM [7] 30 [] (by kernel_rfl) (by kernel_rfl) (by kernel_rfl) (by kernel_rfl) (by kernel_rfl) ?_;refine amM ?_)
                refine amB ?_
                (refine awp_mv 7 9 rfl rfl (by decide) rfl rfl ?_;simp only [xm,simprocAttr])
                refine amGo ?_
                refine ⟨u+1,by omega,by omega,.inr ⟨8,Nat.le_of_ble_eq_true rfl,leT_of ?_ rfl rfl rfl⟩⟩
                ((try simp only [xk]);(repeat (refine leK_cons ?_ ?_;first | (exact amE) | rotate_left));(refine leK_nil ?_;exact (by rw [hsr,gmRow_app];simp only [gmStep,h1,List.map_append];rfl));(all_goals (try (simp only [xr,simprocAttr];try refine int_eq1 ?_))))
              · have hg:¬ whereT (gmRow m s t i st w r (gmAll m s t i st w (gmT m s t y i).list r).1 (srv s u r)).1 (keyG t w r u)<0:=fun h=>absurd (posT_new.2 h) (of_decide_eq_false hg)
                have h1:addT (gmRow m s t i st w r (gmAll m s t i st w (gmT m s t y i).list r).1 (srv s u r)).1 (keyG t w r u)=(gmRow m s t i st w r (gmAll m s t i st w (gmT m s t y i).list r).1 (srv s u r)).1:=if_neg hg
                refine amGo ?_
                (refine amB ?_;refine awp_anyM [7] 30 [] (by kernel_rfl) (by kernel_rfl) (by kernel_rfl) (by kernel_rfl) (by kernel_rfl) ?_;refine amM ?_)
                refine amB ?_
                (refine awp_mv 7 8 rfl rfl (by decide) rfl rfl ?_;simp only [xm,simprocAttr])
                refine amGo ?_
                refine ⟨u+1,by omega,by omega,.inr ⟨8,Nat.le_of_ble_eq_true rfl,leT_of ?_ rfl rfl rfl⟩⟩
                ((try simp only [xk]);(repeat (refine leK_cons ?_ ?_;first | (exact amE) | rotate_left));(refine leK_nil ?_;exact (by rw [hsr,gmRow_app];simp only [gmStep,h1,List.map_append];rfl));(all_goals (try (simp only [xr,simprocAttr];try refine int_eq1 ?_))))
          · have hf:=of_decide_eq_false hf
            have hu':u=m.length:=by omega
            subst hu'
            refine amB ?_
            (refine awp_frz 7 rfl ?_;simp only [xz,simprocAttr])
            refine amGo ?_
            refine ⟨r+1,by omega,by omega,.inr ⟨7,Nat.le_of_ble_eq_true rfl,leT_of ?_ rfl rfl rfl⟩⟩
            ((try simp only [xk]);(repeat (refine leK_cons ?_ ?_;first | (exact amE) | rotate_left));(refine leK_nil ?_;exact (by simp only [gmAll,List.map_append];rfl));(all_goals (try (simp only [xr,simprocAttr];try refine int_eq1 ?_))))
        · have hd:=of_decide_eq_false hd
          have hr':r=s.length:=by omega
          subst hr'
          refine amB ?_
          (refine awp_frz 6 rfl ?_;simp only [xz,simprocAttr])
          refine amGo ?_
          have hgl:(gmT m s t y (i+1)).list=(gmAll m s t i st w (gmT m s t y i).list s.length).1:=by simp only [gmT,hst,hof]
          by_cases hbig:60<(gmT m s t y (i+1)).list.length
          · have hdec:decide ((60:Int)<(gmAll m s t i st w (gmT m s t y i).list s.length).1.length)=true:=decide_eq_true (by rw [← hgl];omega)
            rw [hdec]
            refine ⟨(i+1,true),.inr ⟨rfl,by omega,hi.large hlt hbig⟩,by simp only;omega,.inr ⟨6,Nat.le_of_ble_eq_true rfl,leT_of ?_ rfl rfl rfl⟩⟩
            ((try simp only [xk]);(repeat (refine leK_cons ?_ ?_;first | (exact amE) | rotate_left));(refine leK_nil ?_;exact (by simp only [gmT,hst,hof,ch4,List.map_append];rfl));(all_goals (try (simp only [xr,simprocAttr];try refine int_eq1 ?_))))
          · have hdec:decide ((60:Int)<(gmAll m s t i st w (gmT m s t y i).list s.length).1.length)=false:=decide_eq_false (by rw [← hgl];omega)
            rw [hdec]
            refine ⟨(i+1,false),.inl ⟨rfl,hi.next hlt hbig⟩,by simp only;omega,.inr ⟨6,Nat.le_of_ble_eq_true rfl,leT_of ?_ rfl rfl rfl⟩⟩
            ((try simp only [xk]);(repeat (refine leK_cons ?_ ?_;first | (exact amE) | rotate_left));(refine leK_nil ?_;exact (by simp only [gmT,hst,hof,ch4,List.map_append];rfl));(all_goals (try (simp only [xr,simprocAttr];try refine int_eq1 ?_))))
      · have hnl:¬ i<(gmT m s t y i).list.length:=fun h=>by
          rw [decide_eq_true (show (i:Int)<(gmT m s t y i).list.length by omega)] at he;cases he
        rw [hi.done hnl]
        refine amGoR ?_
        (refine awp_frz 3 rfl ?_;simp only [xz,simprocAttr])
        (refine awp_frz 5 rfl ?_;simp only [xz,simprocAttr])
        refine amGo ?_
        (simp only [xec,simprocAttr];refine ⟨_,⟨amK,rfl⟩,rfl,Imp.eq ?_⟩)
        rfl
    · simp only at hb hb1 hb2
      subst hb
      rw [hb2]
      simp only [xr,simprocAttr]
      refine amGo ?_
      refine awp_cond amQ (fun he => ?_) (fun he => ?_)
      · exfalso
        revert he
        cases decide ((i:Int)<(gmT m s t y i).list.length)<;>decide
      · refine amGoR ?_
        (refine awp_frz 3 rfl ?_;simp only [xz,simprocAttr])
        (refine awp_frz 5 rfl ?_;simp only [xz,simprocAttr])
        refine amGo ?_
        (simp only [xec,simprocAttr];refine ⟨_,⟨amK,rfl⟩,rfl,Imp.eq ?_⟩)
        rfl
  · have hc:=l8All_d m s y hp hy
    unfold offA at hc
    rw [ho] at hc
    have hg0:gm m s y=(⟨[[(y:Int),0]],[]⟩,true):=by unfold gm;rw [ho];rfl
    rw [hg0]
    generalize (offs m s y).1=t at hc
    ((try refine Or.inl ?_);refine ⟨_,hc,amF,?_⟩;refine amC ?_)
    (refine amB ?_;refine awp_regO [false,false,true] ?_;refine amN ?_)
    (refine awp_nil 4 1 103 (.kii 4 []) rfl rfl rfl (by first | trivial | (intro _ h;cases h)) ?_;simp only [xr,simprocAttr])
    refine amGo ?_
    refine awp_rounds (α:=Nat) (fun _=>[(7,true,.int 0)]) [2,4,5,6] (fun _=>[.box [.b (.sl (.ii m)),.b (.sl (.ii s))],.box [.b (.val (.slice none 0 0)),.b (.val (.slice none 0 0)),.b (.val (.bool false))],.box [.b (.sl (.ii t.list)),.b (.sl (.ii t.next)),.b (.sl (.ii t.grows)),.b (.val (.bool true))],.row 74 (.k 2 [[(y:Int),0]]),.box [.own 3,.own 5,.b (.val (.bool true))],.row 103 (.kii 4 [])]) (fun _=>True) (fun i=>i) 0 (by ((try simp only [xk]);(repeat (refine leK_cons ?_ ?_;first | (exact amE) | rotate_left));(try exact leK_nil rfl);(all_goals (try (simp only [xr,simprocAttr];try refine int_eq1 ?_))))) trivial fun i _ => ?_
    simp only [xr,simprocAttr]
    refine amGo ?_
    refine awp_cond amQ (fun he => ?_) (fun he => ?_)
    · cases he
    · refine amGoR ?_
      (refine awp_frz 3 rfl ?_;simp only [xz,simprocAttr])
      (refine awp_frz 5 rfl ?_;simp only [xz,simprocAttr])
      refine amGo ?_
      (simp only [xec,simprocAttr];refine ⟨_,⟨amK,rfl⟩,rfl,Imp.eq ?_⟩)
      rfl
end Go.Proofs.Ytkcelmnbfbehbaa
/- Games on the machine: the reference's, with its guards. Conditions: none. -/
set_option linter.all false
set_option linter.unusedSimpArgs false
set_option linter.unusedVariables false
namespace Go.Proofs.Ytkcelmnbfbehbaa
open Go Go.RowKit Am

theorem gmQ_bad {m s:List (List Int)} {x:Int} (h:takesB m s x []=false):gmQ m s x=(⟨[],[]⟩,true):=by unfold gmQ;rw [h];rfl
theorem l10Get_d (m s:List (List Int)) (x:Int):Does Try.prog 19 [prA m s,.int x] (.imm (.tup [bif takesB m s x [] then gmA (gmQ m s x) else .agg [.b (.val (.slice none 0 0)),.b (.val (.slice none 0 0)),.b (.val (.bool false))],.one (.b (.val (.bool (!(gmQ m s x).2))))])):=by
  refine spec_imm Try.func19 rfl Try.ntmps19 cfOK (fun _ _=>by kernel_rfl) rfl (Nat.le_of_ble_eq_true rfl) ?_
  intro M0 w0
  rw [Try.results19]
  refine amGo ?_
  ((try refine Or.inl ?_);refine ⟨_,(l8Takes_d m s x []),.inl rfl,?_⟩;refine amC ?_)
  refine amGo ?_
  refine awp_cond amQ (fun hc => ?_) (fun hc => ?_)
  · have hc':takesB m s x []=false:=by simpa using hc
    rw [gmQ_bad hc',hc']
    refine amGo ?_
    (simp only [xec,simprocAttr];refine ⟨[_,_],⟨⟨amK,rfl⟩,rfl,trivial⟩,rfl,Imp.eq ?_⟩)
    rfl
  · have hc':takesB m s x []=true:=by simpa using hc
    obtain ⟨hp,⟨y,rfl,hy⟩,-,-⟩:=takes_ok hc'
    have hq:gmQ m s y=gm m s y:=by unfold gmQ;rw [hc',Int.toNat_natCast];rfl
    rw [hq,hc']
    have hg:=l10Make_d m s y hp hy
    generalize gm m s y=q at hg
    change Does _ _ _ (.imm (.tv (.agg [.b (.sl (.k 2 q.1.list)),.b (.sl (.kii 4 (ch4 q.1.ch))),.b (.val (.bool q.2))]))) at hg
    refine amGo ?_
    ((try refine Or.inl ?_);refine ⟨_,hg,amF,?_⟩;refine amC ?_)
    refine amGo ?_
    (refine amB ?_;refine awp_anyM [1] 4 [] (by kernel_rfl) (by kernel_rfl) (by kernel_rfl) (by kernel_rfl) (by kernel_rfl) ?_;refine amM ?_)
    refine amGo ?_
    (simp only [xec,simprocAttr];refine ⟨[_,_],⟨⟨amK,rfl⟩,rfl,trivial⟩,rfl,Imp.eq ?_⟩)
    rfl
theorem l10Get_b {m s:List (List Int)} {x:Int} (h:takesB m s x []=false):Does Try.prog 19 [prA m s,.int x] (.imm (.tup [.agg [.b (.val (.slice none 0 0)),.b (.val (.slice none 0 0)),.b (.val (.bool false))],.one (.b (.val (.bool false)))])):=by
  have:=l10Get_d m s x
  rw [gmQ_bad h,h] at this
  exact this
theorem l10Get_g {m s:List (List Int)} {x:Int} (h:takesB m s x []=true):Does Try.prog 19 [prA m s,.int x] (.imm (.tup [.agg [.b (.sl (.k 2 (gmQ m s x).1.list)),.b (.sl (.kii 4 (ch4 (gmQ m s x).1.ch))),.b (.val (.bool (gmQ m s x).2))],.one (.b (.val (.bool (!(gmQ m s x).2))))])):=by
  have:=l10Get_d m s x
  rw [h] at this
  exact this
end Go.Proofs.Ytkcelmnbfbehbaa
