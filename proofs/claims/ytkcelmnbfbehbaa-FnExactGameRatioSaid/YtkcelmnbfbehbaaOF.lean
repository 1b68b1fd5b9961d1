/- Offsets on the machine: the reference's. Conditions: problems that are right. -/
import Derived.Test.YtkcelmnbfbehbaaGWO
import Derived.Test.YtkcelmnbfbehbaaGWI
set_option linter.all false
set_option linter.unusedSimpArgs false
set_option linter.unusedVariables false
namespace Go.Proofs.Ytkcelmnbfbehbaa
open Go Go.RowKit Am

theorem l1Same_d (xs ys:List Int):Does Try.prog 39 [.sl (.ints xs),.sl (.ints ys)] (.imm (.bool (decide (xs=ys)))):=by
  refine spec_imm Try.func39 rfl Try.ntmps39 cfOK (fun _ _=>by kernel_rfl) rfl (Nat.le_of_ble_eq_true rfl) ?_
  intro M0 w0
  rw [Try.results39]
  (refine awp_fits 0 rfl fun hf => ?_;simp only [xp,simprocAttr] at hf;simp only [xf,simprocAttr] at hf)
  refine amGo ?_
  refine awp_cond amQ (fun hc => ?_) (fun hc => ?_)
  · have hn:xs≠ys:=fun e=>by simp [e] at hc
    refine amGo ?_
    (simp only [xe,simprocAttr];refine ⟨_,rfl,rfl,Imp.eq ?_⟩)
    rw [decide_eq_false hn]
  have hl:xs.length=ys.length:=by simp at hc;omega
  refine amGo ?_
  refine awp_rounds (α:=Nat) (fun k=>[(5,true,.int k)]) [0,1] (fun _=>[]) (fun k=>k≤xs.length∧xs.take k=ys.take k) (fun k=>xs.length-k) 0 (by ((try simp only [xk]);(repeat (refine leK_cons ?_ ?_;first | (exact amE) | rotate_left));(try exact leK_nil rfl);(all_goals (try (simp only [xr,simprocAttr];try refine int_eq1 ?_))))) ⟨Nat.zero_le _,rfl⟩ fun k hk => ?_
  obtain ⟨hk,hp⟩:=hk
  simp only [xr,simprocAttr]
  refine amGo ?_
  refine awp_cond amQ (fun hd => ?_) (fun hd => ?_)
  · have hk':k<xs.length:=by simpa using hd
    have hky:k<ys.length:=by omega
    refine amGo ?_
    refine awp_cond amQ (fun he => ?_) (fun he => ?_)
    · have hn:xs≠ys:=fun e=>by simp [e] at he
      refine amGo ?_
      (simp only [xe,simprocAttr];refine ⟨_,rfl,rfl,Imp.eq ?_⟩)
      rw [decide_eq_false hn]
    · refine amGo ?_
      refine ⟨k+1,by omega,?_,by omega,.inl ?_⟩
      · have h2:xs.getD k 0=ys.getD k 0:=by simpa using he
        rw [List.take_succ_eq_append_getElem hk',List.take_succ_eq_append_getElem hky,hp,← getD_in (d:=0) hk',← getD_in (d:=0) hky,h2]
      · ((try simp only [xk]);(repeat (refine leK_cons ?_ ?_;first | (exact amE) | rotate_left));(try exact leK_nil rfl);(all_goals (try (simp only [xr,simprocAttr];try refine int_eq1 ?_))))
  · have hk':k=xs.length:=by simp at hd;omega
    subst hk'
    have he:xs=ys:=by rw [List.take_length,hl,List.take_length] at hp;exact hp
    refine amGo ?_
    (simp only [xe,simprocAttr];refine ⟨_,rfl,rfl,Imp.eq ?_⟩)
    rw [decide_eq_true he]
theorem sliceEqual_d (xs ys:List Int):Does Try.prog 73 [.sl (.ints xs),.sl (.ints ys)] (.imm (.bool (decide (xs=ys)))):=by
  refine spec_imm Try.func73 rfl Try.ntmps73 cfOK (fun _ _=>by kernel_rfl) rfl (Nat.le_of_ble_eq_true rfl) ?_
  intro M0 w0
  rw [Try.results73]
  (refine awp_fits 0 rfl fun hf => ?_;simp only [xp,simprocAttr] at hf;simp only [xf,simprocAttr] at hf)
  refine amGo ?_
  refine awp_cond amQ (fun hc => ?_) (fun hc => ?_)
  · have hn:xs≠ys:=fun e=>by simp [e] at hc
    refine amGo ?_
    (simp only [xe,simprocAttr];refine ⟨_,rfl,rfl,Imp.eq ?_⟩)
    rw [decide_eq_false hn]
  have hl:xs.length=ys.length:=by simp at hc;omega
  refine amGo ?_
  refine awp_rounds (α:=Nat) (fun k=>[(13,true,.int k)]) [0,1,11,12] (fun _=>[]) (fun k=>k≤xs.length∧xs.take k=ys.take k) (fun k=>xs.length-k) 0 (by ((try simp only [xk]);(repeat (refine leK_cons ?_ ?_;first | (exact amE) | rotate_left));(try exact leK_nil rfl);(all_goals (try (simp only [xr,simprocAttr];try refine int_eq1 ?_))))) ⟨Nat.zero_le _,rfl⟩ fun k hk => ?_
  obtain ⟨hk,hp⟩:=hk
  simp only [xr,simprocAttr]
  refine amGo ?_
  refine awp_cond amQ (fun hd => ?_) (fun hd => ?_)
  · have hk':k<xs.length:=by simpa using hd
    have hky:k<ys.length:=by omega
    refine amGo ?_
    refine awp_cond amQ (fun he => ?_) (fun he => ?_)
    · have hn:xs≠ys:=fun e=>by simp [e] at he
      refine amGo ?_
      (simp only [xe,simprocAttr];refine ⟨_,rfl,rfl,Imp.eq ?_⟩)
      rw [decide_eq_false hn]
    · refine amGo ?_
      refine ⟨k+1,by omega,?_,by omega,.inl ?_⟩
      · have h2:xs.getD k 0=ys.getD k 0:=by simpa using he
        rw [List.take_succ_eq_append_getElem hk',List.take_succ_eq_append_getElem hky,hp,← getD_in (d:=0) hk',← getD_in (d:=0) hky,h2]
      · ((try simp only [xk]);(repeat (refine leK_cons ?_ ?_;first | (exact amE) | rotate_left));(try exact leK_nil rfl);(all_goals (try (simp only [xr,simprocAttr];try refine int_eq1 ?_))))
  · have hk':k=xs.length:=by simp at hd;omega
    subst hk'
    have he:xs=ys:=by rw [List.take_length,hl,List.take_length] at hp;exact hp
    refine amGo ?_
    (simp only [xe,simprocAttr];refine ⟨_,rfl,rfl,Imp.eq ?_⟩)
    rw [decide_eq_true he]
theorem l8Place_d (l:List (List Int)) (w:List Int):Does Try.prog 89 [.sl (.ii l),.sl (.ints w)] (.imm (.int (whereT l w))):=by
  refine spec_imm Try.func89 rfl Try.ntmps89 cfOK (fun _ _=>by kernel_rfl) rfl (Nat.le_of_ble_eq_true rfl) ?_
  intro M0 w0
  rw [Try.results89]
  (refine awp_fits 0 rfl fun hf => ?_;simp only [xp,simprocAttr] at hf;simp only [xf,simprocAttr] at hf)
  refine amGo ?_
  refine awp_rounds (α:=Nat) (fun k=>[(5,true,.int k)]) [0,1] (fun _=>[]) (fun k=>k≤l.length∧∀ x∈l.take k,decide (x=w)=false) (fun k=>l.length-k) 0 (by ((try simp only [xk]);(repeat (refine leK_cons ?_ ?_;first | (exact amE) | rotate_left));(try exact leK_nil rfl);(all_goals (try (simp only [xr,simprocAttr];try refine int_eq1 ?_))))) ⟨Nat.zero_le _,by simp⟩ fun k hk => ?_
  obtain ⟨hk,hp⟩:=hk
  simp only [xr,simprocAttr]
  refine amGo ?_
  refine awp_cond amQ (fun hc => ?_) (fun hc => ?_)
  · have hk':k<l.length:=by simpa using hc
    refine amGo ?_
    ((try refine Or.inl ?_);refine ⟨_,(l1Same_d _ _),.inl rfl,?_⟩;refine amC ?_)
    refine awp_cond amQ (fun hd => ?_) (fun hd => ?_)
    · have e:whereT l w=k:=idxOf_some hk' (by rw [← getD_in (d:=[]) hk'];exact hd) hp
      refine amGo ?_
      (simp only [xe,simprocAttr];refine ⟨_,rfl,rfl,Imp.eq ?_⟩)
      rw [e]
    · refine amGo ?_
      refine ⟨k+1,by omega,fun x hx' => ?_,by omega,.inl ?_⟩
      · rw [List.take_succ_eq_append_getElem hk',List.mem_append,List.mem_singleton] at hx'
        rcases hx' with hx' | rfl
        · exact hp x hx'
        · rw [← getD_in (d:=[]) hk'];exact hd
      · ((try simp only [xk]);(repeat (refine leK_cons ?_ ?_;first | (exact amE) | rotate_left));(try exact leK_nil rfl);(all_goals (try (simp only [xr,simprocAttr];try refine int_eq1 ?_))))
  · have hk':k=l.length:=by simp at hc;omega
    subst hk'
    rw [List.take_length] at hp
    have e:whereT l w = -1:=idxOf_none hp
    refine amGo ?_
    (simp only [xe,simprocAttr];refine ⟨_,rfl,rfl,Imp.eq ?_⟩)
    rw [e]
theorem lessM_take {w:List Int} {a:Int} {k:Nat} (h:k<w.length):(lessM w a).take (k+1)=(lessM w a).take k++[w.getD k 0-a]:=by
  rw [take_getD (by rw [lessM_len];exact h) 0,lessM_at h]
theorem l8Offset_d {m:List (List Int)} {B:Int} (w:List Int) (hw:WkOK m w B) (hB:B≤2000000) (hm:0<m.length) (hm4:m.length≤1000) :
    Does Try.prog 87 [.sl (.ints w)] (.imm (.tup [.one (.b (.sl (.ints (lessM w (leastM w (m.length-1)))))),.one (.b (.val (.int .i64 (leastM w (m.length-1)))))])):=by
  have hl:=hw.len
  have hb:=leastM_bd hw (m.length-1) (by omega)
  refine spec_imm Try.func87 rfl Try.ntmps87 cfOK (fun _ _=>by kernel_rfl) rfl (Nat.le_of_ble_eq_true rfl) ?_
  intro M0 w0
  rw [Try.results87]
  refine amGo ?_
  ((try refine Or.inl ?_);refine ⟨_,(l8Least_d w (by intro e;rw [e] at hl;simp at hl;omega)),.inl rfl,?_⟩;refine amC ?_)
  rw [hl]
  refine amGo ?_
  refine awp_rounds (α:=Nat) (fun k=>[(6,true,.int k)]) [0,4,5] (fun k=>[.row 3 (.ints ((lessM w (leastM w (m.length-1))).take k))]) (fun k=>k≤m.length) (fun k=>m.length-k) 0 (by ((try simp only [xk]);(repeat (refine leK_cons ?_ ?_;first | (exact amE) | rotate_left));(refine leK_nil ?_;exact (by simp));(all_goals (try (simp only [xr,simprocAttr];try refine int_eq1 ?_))))) (Nat.zero_le _) fun k hk => ?_
  have hsl:((lessM w (leastM w (m.length-1))).take k).length=k:=by rw [List.length_take,lessM_len];omega
  simp only [xr,simprocAttr]
  refine amGo ?_
  refine awp_cond amQ (fun hc => ?_) (fun hc => ?_)
  · have hc:=of_decide_eq_true hc
    have hk':k<m.length:=by omega
    have h1:=hw.at_ k hk'
    refine amGo ?_
    refine ⟨k+1,by omega,by omega,.inl ?_⟩
    ((try simp only [xk]);(repeat (refine leK_cons ?_ ?_;first | (exact amE) | rotate_left));(refine leK_nil ?_;exact (by rw [lessM_take (by omega)]));(all_goals (try (simp only [xr,simprocAttr];try refine int_eq1 ?_))))
  · have hc:=of_decide_eq_false hc
    have hk':k=m.length:=by omega
    subst hk'
    rw [List.take_of_length_le (by rw [lessM_len];omega)]
    refine amGoR ?_
    (refine awp_frz 0 rfl ?_;simp only [xz,simprocAttr])
    refine amGo ?_
    (simp only [xe,simprocAttr];refine ⟨[_,_],⟨rfl,rfl,trivial⟩,rfl,Imp.eq ?_⟩)
    rfl
end Go.Proofs.Ytkcelmnbfbehbaa
/- All offsets on the machine: the reference's. Conditions: problems that are right. -/
set_option linter.all false
set_option linter.unusedSimpArgs false
set_option linter.unusedVariables false
namespace Go.Proofs.Ytkcelmnbfbehbaa
open Go Go.RowKit Am

def offA (t:OffT) (b:Bool):AV := .tv (.agg [.b (.sl (.ii t.list)),.b (.sl (.ii t.next)),.b (.sl (.ii t.grows)),.b (.val (.bool b))])
theorem l8Offset_w {m s:List (List Int)} {w:List Int} {B:Int} (hp:probB m s=true) (hw:WkOK m w B) (hB:B≤1000000) {r:Nat} (hr:r<s.length):Does Try.prog 87 [.sl (.ints (nextM m s w r))] (.imm (.tup [.one (.b (.sl (.ints (offW m s w r)))),.one (.b (.val (.int .i64 (offG m s w r))))])):=by
  have hl:=prob_len hp
  exact l8Offset_d (nextM m s w r) (nextM_ok hp hw hB hr) (by omega) (by omega) (by omega)
set_option maxHeartbeats 2000000 in
theorem l8All_d (m s:List (List Int)) (x:Nat) (hp:probB m s=true) (hx:x<m.length):Does Try.prog 57 [prA m s,.int x] (.imm (offA (offs m s x).1 (offs m s x).2)):=by
  have hl:=prob_len hp
  have hx1:=prob_m hp hx
  have hw0:WkOK m (m.getD x []) 99:=⟨hx1.1,hx1.2⟩
  refine spec_imm Try.func57 rfl Try.ntmps57 cfOK (fun _ _=>by kernel_rfl) rfl (Nat.le_of_ble_eq_true rfl) ?_
  intro M0 w0
  rw [Try.results57]
  refine amGo ?_
  ((try refine Or.inl ?_);refine ⟨_,(l8Offset_d (m.getD x []) hw0 (by omega) (by omega) (by omega)),amF,?_⟩;refine amC ?_)
  rw [first_ok hp hx]
  (refine amB ?_;refine awp_regO [false,true] ?_;refine amN ?_)
  (refine awp_nil 3 1 28 (.ii []) rfl rfl rfl (by first | trivial | (intro _ h;cases h)) ?_;simp only [xr,simprocAttr])
  (refine awp_nil 3 2 28 (.ii []) rfl rfl rfl (by first | trivial | (intro _ h;cases h)) ?_;simp only [xr,simprocAttr])
  refine amGo ?_
  refine awp_rounds (α:=Nat) (fun i=>[(8,true,.int i)]) [2,4,7] (fun i=>[.box [.b (.sl (.ii m)),.b (.sl (.ii s))],.box [.b (.val (.slice none 0 0)),.b (.val (.slice none 0 0)),.b (.val (.slice none 0 0)),.b (.val (.bool false))],.row 28 (.ii (offT m s x i).list),.box [.own 2,.own 4,.own 5,.b (.val (.bool false))],.row 28 (.ii (offT m s x i).next),.row 28 (.ii (offT m s x i).grows)]) (OffI m s x) (fun i=>401-i) 0 (by ((try simp only [xk]);(repeat (refine leK_cons ?_ ?_;first | (exact amE) | rotate_left));(refine leK_nil ?_;exact (by rfl));(all_goals (try (simp only [xr,simprocAttr];try refine int_eq1 ?_))))) (OffI.first m s x) fun i hi => ?_
  have hile:=hi.le
  have hlen:=hi.len
  have hok:=offT_ok hp hx i (by omega) hi.lt
  have hnl:=hok.nlen
  have hgl:=hok.glen
  simp only [xr,simprocAttr]
  refine amGo ?_
  refine awp_cond amQ (fun hc => ?_) (fun hc => ?_)
  · have hc:=of_decide_eq_true hc
    have hlt:i<(offT m s x i).list.length:=by omega
    have hw:=offT_at hok hlt
    refine amGo ?_
    refine awp_rounds (α:=Nat) (fun r=>[(11,true,.int r)]) [2,4,7,8,9,10] (fun r=>[.box [.b (.sl (.ii m)),.b (.sl (.ii s))],.box [.b (.val (.slice none 0 0)),.b (.val (.slice none 0 0)),.b (.val (.slice none 0 0)),.b (.val (.bool false))],.row 28 (.ii (offL m s ((offT m s x i).list.getD i []) (offT m s x i).list r)),.box [.own 2,.own 4,.own 5,.b (.val (.bool false))],.row 28 (.ii (offT m s x i).next),.row 28 (.ii (offT m s x i).grows),.row 3 (.ints (offN m s ((offT m s x i).list.getD i []) (offT m s x i).list r)),.row 3 (.ints (offGs m s ((offT m s x i).list.getD i []) r))]) (fun r=>r≤s.length) (fun r=>s.length-r) 0 (by ((try simp only [xk]);(repeat (refine leK_cons ?_ ?_;first | (exact amE) | rotate_left));(refine leK_nil ?_;exact (by rfl));(all_goals (try (simp only [xr,simprocAttr];try refine int_eq1 ?_))))) (Nat.zero_le _) fun r hr => ?_
    have hol:=offL_len m s ((offT m s x i).list.getD i []) (offT m s x i).list r
    have hon:=offN_len m s ((offT m s x i).list.getD i []) (offT m s x i).list r
    have hog:=offGs_len m s ((offT m s x i).list.getD i []) r
    simp only [xr,simprocAttr]
    refine amGo ?_
    refine awp_cond amQ (fun hd => ?_) (fun hd => ?_)
    · have hd:=of_decide_eq_true hd
      have hr':r<s.length:=by omega
      refine amGo ?_
      rw [offL_get hlt r]
      ((try refine Or.inl ?_);refine ⟨_,(l8Next_d m s ((offT m s x i).list.getD i []) _ r hp hw (by omega) hr'),amF,?_⟩;refine amC ?_)
      ((try refine Or.inl ?_);refine ⟨_,(l8Offset_w hp hw (by omega) hr'),amF,?_⟩;refine amC ?_)
      refine amGo ?_
      ((try refine Or.inl ?_);refine ⟨_,(l8Place_d _ _),.inl rfl,?_⟩;refine amC ?_)
      refine amGo ?_
      refine awp_cond amQ (fun he => ?_) (fun he => ?_)
      · have he:=of_decide_eq_true he
        refine amGo ?_
        refine ⟨r+1,by omega,by omega,.inl ?_⟩
        ((try simp only [xk]);(repeat (refine leK_cons ?_ ?_;first | (exact amE) | rotate_left));(refine leK_nil ?_;exact (by simp only [offL,addT,posT,offN_succ,offGs_succ,if_pos he]));(all_goals (try (simp only [xr,simprocAttr];try refine int_eq1 ?_))))
      · have he:=of_decide_eq_false he
        refine amGo ?_
        refine ⟨r+1,by omega,by omega,.inl ?_⟩
        ((try simp only [xk]);(repeat (refine leK_cons ?_ ?_;first | (exact amE) | rotate_left));(refine leK_nil ?_;exact (by simp only [offL,addT,posT,offN_succ,offGs_succ,if_neg he]));(all_goals (try (simp only [xr,simprocAttr];try refine int_eq1 ?_))))
    · have hd:=of_decide_eq_false hd
      have hr':r=s.length:=by omega
      subst hr'
      refine amB ?_
      (refine awp_frz 6 rfl ?_;simp only [xz,simprocAttr])
      (refine awp_frz 7 rfl ?_;simp only [xz,simprocAttr])
      refine amGo ?_
      refine awp_cond amQ (fun hg => ?_) (fun hg => ?_)
      · have hg:=of_decide_eq_true hg
        have hbig:400<(offT m s x (i+1)).list.length:=by show 400<(offL m s _ _ s.length).length;omega
        refine amGoR ?_
        (refine awp_frz 2 rfl ?_;simp only [xz,simprocAttr])
        (refine awp_frz 4 rfl ?_;simp only [xz,simprocAttr])
        (refine awp_frz 5 rfl ?_;simp only [xz,simprocAttr])
        refine amGo ?_
        (simp only [xec,simprocAttr];refine ⟨_,⟨amK,rfl⟩,rfl,Imp.eq ?_⟩)
        rw [hi.large hlt hbig]
        rfl
      · have hg:=of_decide_eq_false hg
        have hbig:¬ 400<(offT m s x (i+1)).list.length:=by show ¬ 400<(offL m s _ _ s.length).length;omega
        refine amGo ?_
        refine ⟨i+1,hi.next hlt hbig,by omega,.inr ⟨6,Nat.le_of_ble_eq_true rfl,leT_of ?_ rfl rfl rfl⟩⟩
        ((try simp only [xk]);(repeat (refine leK_cons ?_ ?_;first | (exact amE) | rotate_left));(refine leK_nil ?_;exact (by rfl));(all_goals (try (simp only [xr,simprocAttr];try refine int_eq1 ?_))))
  · have hc:=of_decide_eq_false hc
    refine amGoR ?_
    (refine awp_frz 2 rfl ?_;simp only [xz,simprocAttr])
    (refine awp_frz 4 rfl ?_;simp only [xz,simprocAttr])
    (refine awp_frz 5 rfl ?_;simp only [xz,simprocAttr])
    refine amGo ?_
    (simp only [xec,simprocAttr];refine ⟨_,⟨amK,rfl⟩,rfl,Imp.eq ?_⟩)
    rw [hi.done (by omega)]
    rfl
end Go.Proofs.Ytkcelmnbfbehbaa
/- All offsets on the machine: the program's. Conditions: problems that are right. -/
set_option linter.all false
set_option linter.unusedSimpArgs false
set_option linter.unusedVariables false
namespace Go.Proofs.Ytkcelmnbfbehbaa
open Go Go.RowKit Am

def lessTo (v:List Int) (a:Int) (j:Nat):List Int:=(List.range v.length).map fun (k:Nat)=>if k<j then v.getD k 0-a else v.getD k 0
theorem lessTo_len (v:List Int) (a:Int) (j:Nat):(lessTo v a j).length=v.length:=by simp [lessTo]
theorem lessTo_0 (v:List Int) (a:Int):lessTo v a 0=v:=by
  refine List.ext_getElem (lessTo_len v a 0) fun j h1 h2 => ?_
  simp [lessTo,h2]
theorem lessTo_all (v:List Int) (a:Int):lessTo v a v.length=lessM v a:=by
  refine List.ext_getElem (by rw [lessTo_len,lessM_len]) fun j h1 h2 => ?_
  rw [lessM_len] at h2
  simp [lessTo,lessM,h2]
theorem lessTo_at {v:List Int} {a:Int} {j:Nat} (h:j<v.length):(lessTo v a j).getD j 0=v.getD j 0:=by
  unfold lessTo
  rw [rangeMap_getD _ _ h,if_neg (Nat.lt_irrefl _)]
theorem lessTo_set (v:List Int) (a:Int) (j:Nat):(lessTo v a j).set j (v.getD j 0-a)=lessTo v a (j+1):=by
  unfold lessTo
  rw [rangeMap_set]
  refine rangeMap_congr fun k _ => ?_
  by_cases e:k=j
  · subst e
    rw [if_pos rfl,if_pos (by omega)]
  · rw [if_neg e]
    by_cases h:k<j
    · rw [if_pos h,if_pos (by omega)]
    · rw [if_neg h,if_neg (by omega)]
theorem offsets1_d (own w:List Int):Does Try.prog 72 [.sl (.ints own),.lf (.ip [.sl (.ints w)] 0)] (.imm (.bool (decide (own=w)))):=by
  refine spec_imm Try.func72 rfl Try.ntmps72 cfOK (fun _ _=>by kernel_rfl) rfl (Nat.le_of_ble_eq_true rfl) ?_
  intro M0 w0
  rw [Try.results72]
  refine amGo ?_
  ((try refine Or.inl ?_);refine ⟨_,(sliceEqual_d _ _),.inl rfl,?_⟩;refine amC ?_)
  refine amGo ?_
  (simp only [xe,simprocAttr];refine ⟨_,rfl,rfl,Imp.eq ?_⟩)
  rfl
def offV (q:OffT×Bool):AV:=bif q.2 then .tup [.one (.b (.val (.slice none 0 0))),.one (.b (.val (.slice none 0 0))),.one (.b (.val (.slice none 0 0))),.one (.b (.val (.bool false)))] else .tup [.one (.b (.sl (.ii q.1.list))),.one (.b (.sl (.ii q.1.next))),.one (.b (.sl (.ii q.1.grows))),.one (.b (.val (.bool true)))]
set_option maxHeartbeats 2000000 in
theorem offsets_d (m s:List (List Int)) (x:Nat) (hp:probB m s=true) (hx:x<m.length):Does Try.prog 42 [prA m s,.int x] (.imm (offV (offs m s x))):=by
  have hl:=prob_len hp
  have hx1:=prob_m hp hx
  refine spec_imm Try.func42 rfl Try.ntmps42 cfOK (fun _ _=>by kernel_rfl) rfl (Nat.le_of_ble_eq_true rfl) ?_
  intro M0 w0
  rw [Try.results42]
  refine amB ?_
  refine amG1 ?_
  (refine amB ?_;refine awp_regO [false,false,false,false,false,false,true] ?_;refine amN ?_)
  ((try refine Or.inl ?_);refine ⟨_,(clone_d _ (by omega) (by omega)),amF,?_⟩;refine amC ?_)
  refine amGo ?_
  refine awp_rounds (α:=Nat) (fun i=>[(11,true,.int i)]) [2,8,9,10] (fun i=>[.box [.b (.sl (.ii m)),.b (.sl (.ii s))],.row 28 (.ii (offT m s x i).list),.row 28 (.ii (offT m s x i).next),.row 28 (.ii (offT m s x i).grows)]) (OffI m s x) (fun i=>401-i) 0 (by ((try simp only [xk]);(repeat (refine leK_cons ?_ ?_;first | (exact amE) | rotate_left));(refine leK_nil ?_;exact (by rfl));(all_goals (try (simp only [xr,simprocAttr];try refine int_eq1 ?_))))) (OffI.first m s x) fun i hi => ?_
  have hile:=hi.le
  have hlen:=hi.len
  have hok:=offT_ok hp hx i (by omega) hi.lt
  have hnl:=hok.nlen
  have hgl:=hok.glen
  simp only [xr,simprocAttr]
  refine amGo ?_
  refine awp_cond amQ (fun hc => ?_) (fun hc => ?_)
  · have hc:=of_decide_eq_true hc
    have hlt:i<(offT m s x i).list.length:=by omega
    have hw:=offT_at hok hlt
    refine amGo ?_
    refine awp_rounds (α:=Nat) (fun r=>[(39,true,.int r)]) [2,8,9,10,11,12,13,38] (fun r=>[.box [.b (.sl (.ii m)),.b (.sl (.ii s))],.row 28 (.ii (offL m s ((offT m s x i).list.getD i []) (offT m s x i).list r)),.row 28 (.ii (offT m s x i).next),.row 28 (.ii (offT m s x i).grows),.row 3 (.ints (offN m s ((offT m s x i).list.getD i []) (offT m s x i).list r)),.row 3 (.ints (offGs m s ((offT m s x i).list.getD i []) r))]) (fun r=>r≤s.length) (fun r=>s.length-r) 0 (by ((try simp only [xk]);(repeat (refine leK_cons ?_ ?_;first | (exact amE) | rotate_left));(refine leK_nil ?_;exact (by rfl));(all_goals (try (simp only [xr,simprocAttr];try refine int_eq1 ?_))))) (Nat.zero_le _) fun r hr => ?_
    have hol:=offL_len m s ((offT m s x i).list.getD i []) (offT m s x i).list r
    have hon:=offN_len m s ((offT m s x i).list.getD i []) (offT m s x i).list r
    have hog:=offGs_len m s ((offT m s x i).list.getD i []) r
    simp only [xr,simprocAttr]
    refine amGo ?_
    refine awp_cond amQ (fun hd => ?_) (fun hd => ?_)
    · have hd:=of_decide_eq_true hd
      have hr':r<s.length:=by omega
      have hgt:=offL_get hlt (m:=m) (s:=s) (w:=(offT m s x i).list.getD i []) r
      have hnx:=nextM_ok hp hw (by omega) hr'
      have hnxl:=hnx.len
      refine amGo ?_
      ((repeat (first | refine g1 ?_ | refine g2 ?_ | ((first | refine g3 ?_ | refine g4 ?_);try simp only [xq,simprocAttr])));refine awp_anyF [true,true,true,true,true,true] (by kernel_rfl) (by kernel_rfl) rfl rfl ⟨rfl,rfl,rfl⟩ ⟨rfl,rfl,rfl⟩ ⟨rfl,rfl,rfl⟩ rfl ⟨rfl,rfl⟩ ⟨by simp only [xr,simprocAttr],by simp only [xr,simprocAttr]⟩ ⟨by kernel_rfl,by kernel_rfl⟩ ?_;simp (maxSteps:=3000000) only [xr,simprocAttr];repeat (guard_target =~ _∧_;refine ⟨by first | with_reducible assumption | (guard_target =~ (_:Int)≤_;omega) | (guard_target =~ (_:Int)<_;omega) | (guard_target =~ (_:Nat)<_;omega) | (guard_target =~ (_:Nat)≤_;omega) | (guard_target =~ (_:Int)=_;omega) | (unfold I64;omega) | trivial | omega | (simp<;>omega) | (intros;omega),?_⟩))
      rw [hgt]
      (refine ⟨_,_,callF (nextWork_h m s ((offT m s x i).list.getD i []) _ r hp hw (by omega) hr') rfl rfl rfl rfl rfl,?_⟩;refine amC ?_)
      refine amGo ?_
      ((try refine Or.inl ?_);refine ⟨_,(sliceMin_d (nextM m s ((offT m s x i).list.getD i []) r) (by intro e;rw [e] at hnxl;simp at hnxl;omega)),.inl rfl,?_⟩;refine amC ?_)
      rw [hnxl]
      refine amGo ?_
      have hgd:leastM (nextM m s ((offT m s x i).list.getD i []) r) (m.length-1)=offG m s ((offT m s x i).list.getD i []) r:=rfl
      rw [hgd]
      have hgb:=offG_ok hp hw (by omega) hr' (by omega)
      refine awp_rounds (α:=Nat) (fun j=>[(53,true,.int j)]) [2,8,9,10,11,12,13,14,15,16,38,39,52] (fun j=>[.box [.b (.sl (.ii m)),.b (.sl (.ii s))],.row 28 (.ii (offL m s ((offT m s x i).list.getD i []) (offT m s x i).list r)),.row 28 (.ii (offT m s x i).next),.row 28 (.ii (offT m s x i).grows),.row 3 (.ints (offN m s ((offT m s x i).list.getD i []) (offT m s x i).list r)),.row 3 (.ints (offGs m s ((offT m s x i).list.getD i []) r)),.box [.own 7],.row 3 (.ints (lessTo (nextM m s ((offT m s x i).list.getD i []) r) (offG m s ((offT m s x i).list.getD i []) r) j))]) (fun j=>j≤m.length) (fun j=>m.length-j) 0 (by ((try simp only [xk]);(repeat (refine leK_cons ?_ ?_;first | (exact amE) | rotate_left));(refine leK_nil ?_;exact (by rw [lessTo_0]));(all_goals (try (simp only [xr,simprocAttr];try refine int_eq1 ?_))))) (Nat.zero_le _) fun j hj => ?_
      have hll:=lessTo_len (nextM m s ((offT m s x i).list.getD i []) r) (offG m s ((offT m s x i).list.getD i []) r) j
      simp only [xr,simprocAttr]
      refine amGo ?_
      refine awp_cond amQ (fun he => ?_) (fun he => ?_)
      · have he:=of_decide_eq_true he
        have hj':j<m.length:=by omega
        have hat:=lessTo_at (v:=nextM m s ((offT m s x i).list.getD i []) r) (a:=offG m s ((offT m s x i).list.getD i []) r) (j:=j) (by omega)
        have hst:=lessTo_set (nextM m s ((offT m s x i).list.getD i []) r) (offG m s ((offT m s x i).list.getD i []) r) j
        have hnb:=hnx.at_ j hj'
        refine amGo ?_
        rw [hat]
        refine amS ?_
        refine amGo ?_
        refine ⟨j+1,by omega,by omega,.inl ?_⟩
        ((try simp only [xk]);(repeat (refine leK_cons ?_ ?_;first | (exact amE) | rotate_left));(refine leK_nil ?_;exact (by rw [← hst]));(all_goals (try (simp only [xr,simprocAttr];try refine int_eq1 ?_))))
      · have he:=of_decide_eq_false he
        have hj':j=m.length:=by omega
        subst hj'
        refine amB ?_
        rw [show lessTo (nextM m s ((offT m s x i).list.getD i []) r) (offG m s ((offT m s x i).list.getD i []) r) m.length=offW m s ((offT m s x i).list.getD i []) r by rw [← hnxl];exact lessTo_all _ _]
        (refine awp_frz 7 rfl ?_;simp only [xz,simprocAttr])
        refine amGo ?_
        ((try refine Or.inl ?_);refine ⟨_,(indexFuncII_d _ _ [.ip [.sl (.ints (offW m s ((offT m s x i).list.getD i []) r))] 0] (fun own=>decide (own=offW m s ((offT m s x i).list.getD i []) r)) rfl fun k hk=>offsets1_d _ _),.inl rfl,?_⟩;refine amC ?_)
        refine amGo ?_
        refine awp_cond amQ (fun hk => ?_) (fun hk => ?_)
        · have hk:whereT (offL m s ((offT m s x i).list.getD i []) (offT m s x i).list r) (offW m s ((offT m s x i).list.getD i []) r)<0:=of_decide_eq_true hk
          refine amGo ?_
          refine ⟨r+1,by omega,by omega,.inr ⟨6,Nat.le_of_ble_eq_true rfl,leT_of ?_ rfl rfl rfl⟩⟩
          ((try simp only [xk]);(repeat (refine leK_cons ?_ ?_;first | (exact amE) | rotate_left));(refine leK_nil ?_;exact (by simp only [offL,addT,posT,offN_succ,offGs_succ,if_pos hk];rfl));(all_goals (try (simp only [xr,simprocAttr];try refine int_eq1 ?_))))
        · have hk:¬ whereT (offL m s ((offT m s x i).list.getD i []) (offT m s x i).list r) (offW m s ((offT m s x i).list.getD i []) r)<0:=of_decide_eq_false hk
          refine amGo ?_
          refine ⟨r+1,by omega,by omega,.inr ⟨6,Nat.le_of_ble_eq_true rfl,leT_of ?_ rfl rfl rfl⟩⟩
          ((try simp only [xk]);(repeat (refine leK_cons ?_ ?_;first | (exact amE) | rotate_left));(refine leK_nil ?_;exact (by simp only [offL,addT,posT,offN_succ,offGs_succ,if_neg hk];rfl));(all_goals (try (simp only [xr,simprocAttr];try refine int_eq1 ?_))))
    · have hd:=of_decide_eq_false hd
      have hr':r=s.length:=by omega
      subst hr'
      refine amB ?_
      (refine awp_frz 4 rfl ?_;simp only [xz,simprocAttr])
      (refine awp_frz 5 rfl ?_;simp only [xz,simprocAttr])
      refine amGo ?_
      refine awp_cond amQ (fun hg => ?_) (fun hg => ?_)
      · have hg:=of_decide_eq_true hg
        have hbig:400<(offT m s x (i+1)).list.length:=by show 400<(offL m s _ _ s.length).length;omega
        refine amGo ?_
        (simp only [xe,simprocAttr];refine ⟨[_,_,_,_],⟨rfl,rfl,rfl,rfl,trivial⟩,rfl,Imp.eq ?_⟩)
        rw [hi.large hlt hbig]
        rfl
      · have hg:=of_decide_eq_false hg
        have hbig:¬ 400<(offT m s x (i+1)).list.length:=by show ¬ 400<(offL m s _ _ s.length).length;omega
        refine amGo ?_
        refine ⟨i+1,hi.next hlt hbig,by omega,.inr ⟨4,Nat.le_of_ble_eq_true rfl,leT_of ?_ rfl rfl rfl⟩⟩
        ((try simp only [xk]);(repeat (refine leK_cons ?_ ?_;first | (exact amE) | rotate_left));(refine leK_nil ?_;exact (by rfl));(all_goals (try (simp only [xr,simprocAttr];try refine int_eq1 ?_))))
  · have hc:=of_decide_eq_false hc
    refine amGoR ?_
    (refine awp_frz 1 rfl ?_;simp only [xz,simprocAttr])
    (refine awp_frz 2 rfl ?_;simp only [xz,simprocAttr])
    (refine awp_frz 3 rfl ?_;simp only [xz,simprocAttr])
    refine amGo ?_
    (simp only [xe,simprocAttr];refine ⟨[_,_,_,_],⟨rfl,rfl,rfl,rfl,trivial⟩,rfl,Imp.eq ?_⟩)
    rw [hi.done (by omega)]
    rfl
end Go.Proofs.Ytkcelmnbfbehbaa
