/- Random marking: lists compared, numbers dropped, a probability added, on the machine: the reference's. Conditions: those that each names. -/
import Derived.Test.YtjblpcgkffhgfaaGreatMgF
import Derived.Test.YtjblpcgkffhgfaaGreatGMP
import Derived.Test.YtjblpcgkffhgfaaGreatGCB
set_option linter.all false
set_option linter.unusedSimpArgs false
set_option linter.unusedVariables false
namespace Go.Proofs.YtjblpcgkffhgfaaGreat
open Go Go.RowKit Am

theorem l1Same_m (xs ys:List Int):Does Tryz.prog 177 [.sl (.ints xs),.sl (.ints ys)] (.imm (.bool (decide (xs=ys)))):=by
  refine spec_imm Tryz.func177 rfl Tryz.ntmps177 cfOK (fun _ _=>by kernel_rfl) rfl (Nat.le_of_ble_eq_true rfl) ?_
  intro M0 w0
  rw [Tryz.results177]
  (refine awp_fits 0 rfl fun hf => ?_;simp only [xp,simprocAttr] at hf;simp only [xf,simprocAttr] at hf)
  refine amGo ?_
  refine awp_cond amQ (fun hc => ?_) (fun hc => ?_)
  · have hn:xs≠ys:=fun e=>by simp [e] at hc
    refine amGo ?_
    (simp only [xe,simprocAttr];refine ⟨_,rfl,rfl,Imp.eq ?_⟩)
    rw [decide_eq_false hn]
  have hl:xs.length=ys.length:=by simp at hc;omega
  refine amGo ?_
  refine awp_rounds (α:=Nat) (fun k=>[(5,true,.int k)]) [0,1] (fun _=>[]) (fun k=>k≤xs.length∧xs.take k=ys.take k) (fun k=>xs.length-k) 0 (by ((try simp only [xk]);(repeat (refine leK_cons ?_ ?_;first | (exact amE) | rotate_left));(try exact leK_nil rfl);(all_goals (try (simp only [xr,simprocAttr];try refine int_eq1 ?_))))) ⟨Nat.zero_le _,rfl⟩ fun k hk => ?_
  obtain ⟨hk,hp⟩:=hk
  simp only [xr,simprocAttr]
  refine amGo ?_
  refine awp_cond amQ (fun hd => ?_) (fun hd => ?_)
  · have hk':k<xs.length:=by simpa using hd
    have hky:k<ys.length:=by omega
    refine amGo ?_
    refine awp_cond amQ (fun he => ?_) (fun he => ?_)
    · have hn:xs≠ys:=fun e=>by simp [e] at he
      refine amGo ?_
      (simp only [xe,simprocAttr];refine ⟨_,rfl,rfl,Imp.eq ?_⟩)
      rw [decide_eq_false hn]
    · refine amGo ?_
      refine ⟨k+1,by omega,?_,by omega,.inl ?_⟩
      · have h2:xs.getD k 0=ys.getD k 0:=by simpa using he
        rw [List.take_succ_eq_append_getElem hk',List.take_succ_eq_append_getElem hky,hp,← getD_in (d:=0) hk',← getD_in (d:=0) hky,h2]
      · ((try simp only [xk]);(repeat (refine leK_cons ?_ ?_;first | (exact amE) | rotate_left));(try exact leK_nil rfl);(all_goals (try (simp only [xr,simprocAttr];try refine int_eq1 ?_))))
  · have hk':k=xs.length:=by simp at hd;omega
    subst hk'
    have he:xs=ys:=by rw [List.take_length,hl,List.take_length] at hp;exact hp
    refine amGo ?_
    (simp only [xe,simprocAttr];refine ⟨_,rfl,rfl,Imp.eq ?_⟩)
    rw [decide_eq_true he]
theorem l11Less_d (x y:List Int):Does Tryz.prog 176 [.sl (.ints x),.sl (.ints y)] (.imm (.bool (lexB x y))):=by
  refine spec_imm Tryz.func176 rfl Tryz.ntmps176 cfOK (fun _ _=>by kernel_rfl) rfl (Nat.le_of_ble_eq_true rfl) ?_
  intro M0 w0
  rw [Tryz.results176]
  (refine awp_fits 0 rfl fun hf => ?_;simp only [xp,simprocAttr] at hf;simp only [xf,simprocAttr] at hf)
  (refine awp_fits 1 rfl fun hf2 => ?_;simp only [xp,simprocAttr] at hf2;simp only [xf,simprocAttr] at hf2)
  refine amGo ?_
  refine awp_rounds (α:=Nat) (fun k=>[(5,true,.int k)]) [0,1] (fun _=>[]) (fun k=>k≤x.length∧k≤y.length∧∀ j,j<k→x.getD j 0=y.getD j 0) (fun k=>x.length-k) 0 (by ((try simp only [xk]);(repeat (refine leK_cons ?_ ?_;first | (exact amE) | rotate_left));(try exact leK_nil rfl);(all_goals (try (simp only [xr,simprocAttr];try refine int_eq1 ?_))))) ⟨Nat.zero_le _,Nat.zero_le _,fun j hj=>absurd hj (Nat.not_lt_zero _)⟩ fun k hk => ?_
  obtain ⟨hk1,hk2,hk3⟩:=hk
  have hL:=lexB_at x y k hk1 hk2 hk3
  simp only [xr,simprocAttr]
  refine amGo ?_
  refine awp_cond amQ (fun hc => ?_) (fun hc => ?_)
  · have hc:k<x.length∧k<y.length:=by
      by_cases h1:(k:Int)<x.length
      · rw [decide_eq_true h1] at hc
        have:=of_decide_eq_true hc
        omega
      · rw [decide_eq_false h1] at hc
        cases hc
    obtain ⟨hx,hy⟩:=hc
    have hdx:=drop_getD hx
    have hdy:=drop_getD hy
    refine amGo ?_
    refine awp_cond amQ (fun hd => ?_) (fun hd => ?_)
    · have hd:¬ x.getD k 0=y.getD k 0:=by simpa using hd
      refine amGo ?_
      (simp only [xe,simprocAttr];refine ⟨_,rfl,rfl,Imp.eq ?_⟩)
      rw [hL,hdx,hdy]
      unfold lexB
      rw [if_neg hd]
    · have hd:x.getD k 0=y.getD k 0:=by simpa using hd
      refine amGo ?_
      refine ⟨k+1,by omega,by omega,fun j hj => ?_,by omega,.inl ?_⟩
      · rcases Nat.lt_or_ge j k with h2 | h2
        · exact hk3 j h2
        · obtain rfl:j=k:=by omega
          exact hd
      · ((try simp only [xk]);(repeat (refine leK_cons ?_ ?_;first | (exact amE) | rotate_left));(try exact leK_nil rfl);(all_goals (try (simp only [xr,simprocAttr];try refine int_eq1 ?_))))
  · have hc:¬ (k<x.length∧k<y.length):=fun ⟨h1,h2⟩=>by
      rw [decide_eq_true (show (k:Int)<x.length by omega),decide_eq_true (show (k:Int)<y.length by omega)] at hc
      cases hc
    refine amGo ?_
    (simp only [xe,simprocAttr];refine ⟨_,rfl,rfl,Imp.eq ?_⟩)
    rw [hL]
    rcases Nat.lt_or_ge k x.length with h1 | h1
    · have hy:y.drop k=[]:=List.drop_eq_nil_of_le (by omega)
      rw [drop_getD h1,hy,decide_eq_false (by omega)]
      rfl
    · have hx:x.drop k=[]:=List.drop_eq_nil_of_le (by omega)
      rcases Nat.lt_or_ge k y.length with h2 | h2
      · rw [hx,drop_getD h2,decide_eq_true (by omega)]
        rfl
      · have hy:y.drop k=[]:=List.drop_eq_nil_of_le (by omega)
        rw [hx,hy,decide_eq_false (by omega)]
        rfl
theorem l11Drop_d (xs:List Int) (y:Int) (hn:xs.length≤1000):Does Tryz.prog 156 [.sl (.ints xs),.int y] (.imm (.sl (.ints (wo xs y)))):=by
  refine spec_imm Tryz.func156 rfl Tryz.ntmps156 cfOK (fun _ _=>by kernel_rfl) rfl (Nat.le_of_ble_eq_true rfl) ?_
  intro M0 w0
  rw [Tryz.results156]
  (refine awp_fits 0 rfl fun hf => ?_;simp only [xp,simprocAttr] at hf;simp only [xf,simprocAttr] at hf)
  refine amGo ?_
  refine awp_rounds (α:=Nat) (fun k=>[(6,true,.int k)]) [0,1,5] (fun k=>[.row 3 (.ints (wo (xs.take k) y))]) (fun k=>k≤xs.length) (fun k=>xs.length-k) 0 (by ((try simp only [xk]);(repeat (refine leK_cons ?_ ?_;first | (exact amE) | rotate_left));(refine leK_nil ?_;exact (by rfl));(all_goals (try (simp only [xr,simprocAttr];try refine int_eq1 ?_))))) (Nat.zero_le _) fun k hk => ?_
  have hl:(wo (xs.take k) y).length≤(xs.take k).length:=List.length_filter_le _ _
  rw [List.length_take] at hl
  simp only [xr,simprocAttr]
  refine amGo ?_
  refine awp_cond amQ (fun hc => ?_) (fun hc => ?_)
  · have hk':k<xs.length:=by have:=of_decide_eq_true hc;omega
    have e:wo (xs.take (k+1)) y=wo (xs.take k) y++(if xs.getD k 0=y then [] else [xs.getD k 0]):=by
      unfold wo
      rw [take_getD hk' 0,List.filter_append]
      congr 1
      simp only [List.filter_cons,List.filter_nil]
      by_cases h:xs.getD k 0=y
      · simp [h]
      · rw [if_neg h,if_pos (decide_eq_true h)]
    refine amGo ?_
    refine awp_cond amQ (fun hd => ?_) (fun hd => ?_)
    · have hd2:¬ xs.getD k 0=y:=by simpa using hd
      rw [if_neg hd2] at e
      refine amGo ?_
      refine ⟨k+1,by omega,by omega,.inl ?_⟩
      ((try simp only [xk]);(repeat (refine leK_cons ?_ ?_;first | (exact amE) | rotate_left));(refine leK_nil ?_;exact (by rw [e]));(all_goals (try (simp only [xr,simprocAttr];try refine int_eq1 ?_))))
    · have hd2:xs.getD k 0=y:=by simpa using hd
      rw [if_pos hd2,List.append_nil] at e
      refine amGo ?_
      refine ⟨k+1,by omega,by omega,.inl ?_⟩
      ((try simp only [xk]);(repeat (refine leK_cons ?_ ?_;first | (exact amE) | rotate_left));(refine leK_nil ?_;exact (by rw [e]));(all_goals (try (simp only [xr,simprocAttr];try refine int_eq1 ?_))))
  · have hk':k=xs.length:=by have:=of_decide_eq_false hc;omega
    subst hk'
    rw [List.take_length]
    refine amGoR ?_
    (refine awp_frz 0 rfl ?_;simp only [xz,simprocAttr])
    refine amGo ?_
    (simp only [xe,simprocAttr];refine ⟨_,rfl,rfl,Imp.eq ?_⟩)
    rfl
/-- what is held, as the reference hands it on -/
abbrev hA (h:HL):AV := .tv (.agg [.b (.sl (.ii (kH h))),.b (.sl (.k 2 (oH h)))])
theorem isAt_k {h:HL} {x:List Int}:isAt h x↔atH h x<h.length∧(kH h).getD (atH h x) []=x:=by
  unfold isAt
  exact ⟨fun ⟨h1,h2⟩=>⟨h1,by rw [kH_at h1];exact h2⟩,fun ⟨h1,h2⟩=>⟨h1,by rw [kH_at h1] at h2;exact h2⟩⟩
set_option maxHeartbeats 4000000 in
theorem l11Gain_d (h:HL) (x:List Int) (n:Nat) (hl:h.length≤720) (hb:∀ p∈h,p.2≤720) (hn:n≤720):Does Tryz.prog 154 [hA h,.sl (.ints x),frA (fr7 n)] (.imm (hA (gainH h x n))):=by
  have hkl:=kH_len h
  have hol:=oH_len h
  have hat:=atH_le h x
  refine spec_imm Tryz.func154 rfl Tryz.ntmps154 cfOK (fun _ _=>by kernel_rfl) rfl (Nat.le_of_ble_eq_true rfl) ?_
  intro M0 w0
  rw [Tryz.results154]
  refine amGo ?_
  refine awp_rounds (α:=Nat) (fun k=>[(7,true,.int k)]) [1,3,5,6] (fun _=>[.box [.b (.sl (.ii (kH h))),.b (.sl (.k 2 (oH h)))],.box [.b (.val (.int .i64 (fr7 n).1)),.b (.val (.int .i64 (fr7 n).2))],.box [.b (.val (.slice none 0 0)),.b (.val (.slice none 0 0))]]) (fun k=>k≤atH h x) (fun k=>h.length-k) 0 (by ((try simp only [xk]);(repeat (refine leK_cons ?_ ?_;first | (exact amE) | rotate_left));(refine leK_nil ?_;exact (by rfl));(all_goals (try (simp only [xr,simprocAttr];try refine int_eq1 ?_))))) (Nat.zero_le _) fun k hk => ?_
  simp only [xr,simprocAttr]
  refine amGo ?_
  ((try refine Or.inl ?_);refine ⟨_,(fun _=>l11Less_d ((kH h).getD k []) x),.inl rfl,?_⟩;refine amC ?_)
  refine amGo ?_
  refine awp_cond amQ (fun hc => ?_) (fun hc => ?_)
  · have hc':k<h.length∧lexB (h.getD k ([],0)).1 x=true:=by
      by_cases h1:k<h.length
      · rw [decide_eq_true (show (k:Int)<(kH h).length by omega),kH_at h1] at hc
        exact ⟨h1,hc⟩
      · rw [decide_eq_false (show ¬ (k:Int)<(kH h).length by omega)] at hc
        cases hc
    have hk':k+1≤atH h x:=by
      rcases Nat.lt_or_ge k (atH h x) with h1 | h1
      · exact h1
      · obtain rfl:k=atH h x:=by omega
        rw [atH_ge hc'.1] at hc'
        cases hc'.2
    refine amGo ?_
    refine ⟨k+1,by omega,by omega,.inl ?_⟩
    ((try simp only [xk]);(repeat (refine leK_cons ?_ ?_;first | (exact amE) | rotate_left));(refine leK_nil ?_;exact (by rfl));(all_goals (try (simp only [xr,simprocAttr];try refine int_eq1 ?_))))
  · have hk':k=atH h x:=by
      rcases Nat.lt_or_ge k (atH h x) with h1 | h1
      · have h2:=atH_lt h1
        rw [decide_eq_true (show (k:Int)<(kH h).length by omega),kH_at (by omega),h2] at hc
        cases hc
      · omega
    subst hk'
    refine amGo ?_
    (refine amB ?_;refine awp_anyG 1 [(6,[6,3]),(8,[5])] [3,5,6] [(1,[3,6]),(6,[5]),(8,[])] ?_;refine amNG ?_)
    (refine awp_mv 3 6 rfl rfl (by decide) rfl rfl ?_;simp only [xm,simprocAttr])
    (refine amB ?_;refine awp_anyG 1 [(6,[7,4]),(8,[5])] [4,5,7] [(1,[4,7]),(6,[5]),(8,[])] ?_;refine amNG ?_)
    (refine awp_mv 4 7 rfl rfl (by decide) rfl rfl ?_;simp only [xm,simprocAttr])
    refine amGo ?_
    ((try refine Or.inl ?_);refine ⟨_,(fun _=>l1Same_m ((kH h).getD (atH h x) []) x),.inl rfl,?_⟩;refine amC ?_)
    refine amGo ?_
    refine awp_cond amQ (fun hd => ?_) (fun hd => ?_)
    · have hd':isAt h x:=isAt_k.2 (by
        by_cases h1:atH h x<h.length
        · rw [decide_eq_true (show ((atH h x:Nat):Int)<(kH h).length by omega)] at hd
          exact ⟨h1,of_decide_eq_true hd⟩
        · rw [decide_eq_false (show ¬ ((atH h x:Nat):Int)<(kH h).length by omega)] at hd
          cases hd)
      have hoa:=oH_at hd'.1
      have hlt:=hd'.1
      have hmb:(h.getD (atH h x) ([],0)).2≤720:=by rw [getD_inL hd'.1];exact hb _ (List.getElem_mem hd'.1)
      have ek:=kH_in (n:=n) hd'
      have eo:=oH_in (n:=n) hd'
      generalize (h.getD (atH h x) ([],0)).2=m at hoa hmb eo
      (refine amB ?_;refine awp_anyM [8] 10 [] (by kernel_rfl) (by kernel_rfl) (by kernel_rfl) (by kernel_rfl) (by kernel_rfl) ?_;refine amM ?_)
      rw [hoa,show (frM m).getD 0 0=(fr7 m).1 from rfl,show (frM m).getD 1 0=(fr7 m).2 from rfl]
      ((try refine Or.inl ?_);refine ⟨_,(l2addF_d m n (by omega) (by omega)),amF,?_⟩;refine amC ?_)
      refine amGo ?_
      (refine amB ?_;refine awp_anyG 1 [(6,[9,3]),(8,[5])] [3,5,9] [(1,[3,9]),(6,[5]),(8,[])] ?_;refine amNG ?_)
      (refine awp_mv 3 9 rfl rfl (by decide) rfl rfl ?_;simp only [xm,simprocAttr])
      (refine amB ?_;refine awp_anyG 1 [(6,[10,4]),(8,[5])] [4,5,10] [(1,[4,10]),(6,[5]),(8,[])] ?_;refine amNG ?_)
      (refine awp_mv 4 10 rfl rfl (by decide) rfl rfl ?_;simp only [xm,simprocAttr])
      (refine awp_frz 3 rfl ?_;simp only [xz,simprocAttr])
      (refine awp_frz 4 rfl ?_;simp only [xz,simprocAttr])
      refine amGo ?_
      (simp only [xec,simprocAttr];refine ⟨_,⟨amK,rfl⟩,rfl,Imp.eq ?_⟩)
      have e1:List.drop 0 (List.take (atH h x) (kH h))++[x]++List.drop (((atH h x:Nat):Int)+1).toNat (List.take (kH h).length (kH h))=kH (gainH h x n):=by
        rw [List.drop_zero,List.take_length,show (((atH h x:Nat):Int)+1).toNat=atH h x+1 by omega,gainH_in hd']
        simp [kH,List.map_take,List.map_drop]
      have e2:List.drop 0 (List.take (atH h x) (oH h))++[[(fr7 (m+n)).1,(fr7 (m+n)).2]]++List.drop (((atH h x:Nat):Int)+1).toNat (List.take (oH h).length (oH h))=oH (gainH h x n):=by
        rw [List.drop_zero,List.take_length,show (((atH h x:Nat):Int)+1).toNat=atH h x+1 by omega,eo,List.set_eq_take_append_cons_drop,if_pos (by omega),List.append_assoc]
        rfl
      rw [e1,e2]
      rfl
    · have hd':¬ isAt h x:=fun h1=>by
        obtain ⟨h2,h3⟩:=isAt_k.1 h1
        rw [decide_eq_true (show ((atH h x:Nat):Int)<(kH h).length by omega),h3,decide_eq_true rfl] at hd
        cases hd
      have ek:=kH_new (n:=n) hd'
      have eo:=oH_new (n:=n) hd'
      refine amGo ?_
      (refine amB ?_;refine awp_anyG 1 [(6,[8,3]),(8,[5])] [3,5,8] [(1,[3,8]),(6,[5]),(8,[])] ?_;refine amNG ?_)
      (refine awp_mv 3 8 rfl rfl (by decide) rfl rfl ?_;simp only [xm,simprocAttr])
      (refine amB ?_;refine awp_anyG 1 [(6,[9,4]),(8,[5])] [4,5,9] [(1,[4,9]),(6,[5]),(8,[])] ?_;refine amNG ?_)
      (refine awp_mv 4 9 rfl rfl (by decide) rfl rfl ?_;simp only [xm,simprocAttr])
      (refine awp_frz 3 rfl ?_;simp only [xz,simprocAttr])
      (refine awp_frz 4 rfl ?_;simp only [xz,simprocAttr])
      refine amGo ?_
      (simp only [xec,simprocAttr];refine ⟨_,⟨amK,rfl⟩,rfl,Imp.eq ?_⟩)
      have e1:List.drop 0 (List.take (atH h x) (kH h))++[x]++List.drop (atH h x) (List.take (kH h).length (kH h))=kH (gainH h x n):=by
        rw [List.drop_zero,List.take_length,ek]
      have e2:List.drop 0 (List.take (atH h x) (oH h))++[[(fr7 n).1,(fr7 n).2]]++List.drop (atH h x) (List.take (oH h).length (oH h))=oH (gainH h x n):=by
        rw [List.drop_zero,List.take_length,eo]
        rfl
      rw [e1,e2]
      rfl
end Go.Proofs.YtjblpcgkffhgfaaGreat
