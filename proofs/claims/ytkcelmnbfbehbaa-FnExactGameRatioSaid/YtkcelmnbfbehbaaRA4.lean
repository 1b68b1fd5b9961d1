/- Arenas on the machine: the arena of a game. Conditions: games that are whole, ratios in bounds. -/
import Derived.Test.YtkcelmnbfbehbaaRA2
import Derived.Test.YtkcelmnbfbehbaaRA3
import Derived.Test.YtkcelmnbfbehbaaMaxQ
set_option linter.all false
set_option linter.unusedSimpArgs false
set_option linter.unusedVariables false
namespace Go.Proofs.Ytkcelmnbfbehbaa
open Go Go.RowKit Am

theorem ext_getL {xs ys:List (List (List Int))} (hl:xs.length=ys.length) (h:∀ v,v<ys.length→arRow xs v=arRow ys v):xs=ys :=
  List.ext_getElem hl fun v hv hv'=>by
    have:=h v hv'
    unfold arRow at this
    simpa [List.getD_eq_getElem?_getD,hv,hv'] using this
theorem set_row (xs:List (List (List Int))) (v u:Nat) (x:List (List Int)) (hv:v<xs.length):arRow (xs.set v x) u=if u=v then x else arRow xs u:=by
  unfold arRow
  simp only [List.getD_eq_getElem?_getD,List.getElem?_set]
  by_cases e:v=u
  · subst e;simp [hv]
  · rw [if_neg e,if_neg fun e2=>e e2.symm]
theorem app_row (xs:List (List (List Int))) (u:Nat):arRow (xs++[[]]) u=arRow xs u:=by
  unfold arRow
  simp only [List.getD_eq_getElem?_getD]
  by_cases h:u<xs.length
  · rw [List.getElem?_append_left h]
  · rw [List.getElem?_append_right (by omega),List.getElem?_eq_none (Nat.not_lt.1 h)]
    by_cases e:u-xs.length=0
    · rw [e];rfl
    · rw [List.getElem?_eq_none (by simp;omega)]
theorem arNo_succ (n q j c:Nat):arNo n q j (c+1)=arNo n q j c++[[((n+(j*q+c):Nat):Int),0]]:=by simp [arNo,List.range_succ]
theorem arG_next {g:GmT} {num den:Int} {q a r:Nat} (ha:a<g.list.length):((arG g num den q a r++[[]]).set a (arNo g.list.length q a (r+1))).set (g.list.length+(a*q+r)) (arEd g num den q (a*q+r))=arG g num den q a (r+1):=by
  have hl:=arG_len g num den q a r
  have hl2:=arG_len g num den q a (r+1)
  refine ext_getL (by simp [hl,hl2];omega) fun v hv => ?_
  rw [hl2] at hv
  rw [set_row _ _ _ _ (by simp [hl]),set_row _ _ _ _ (by simp [hl];omega),app_row]
  by_cases h1:v=g.list.length+(a*q+r)
  · rw [if_pos h1,h1,arG_hi (by omega)]
  · rw [if_neg h1]
    by_cases h2:v=a
    · rw [if_pos h2,h2,arG_lo ha,if_neg (by omega),if_pos rfl]
    · rw [if_neg h2]
      by_cases h3:v<g.list.length
      · rw [arG_lo h3,arG_lo h3,if_neg h2,if_neg h2]
      · obtain ⟨e,rfl⟩:=Nat.exists_eq_add_of_le (Nat.not_lt.1 h3)
        rw [arG_hi (by omega),arG_hi (by omega)]
theorem arG_done {g:GmT} {num den:Int} {q a:Nat}:arG g num den q a q=arG g num den q (a+1) 0:=by
  have hl:=arG_len g num den q a q
  have hl2:=arG_len g num den q (a+1) 0
  have he:(a+1)*q+0=a*q+q:=by rw [Nat.add_mul];omega
  refine ext_getL (by rw [hl,hl2,he]) fun v hv => ?_
  rw [hl2] at hv
  by_cases h3:v<g.list.length
  · rw [arG_lo h3,arG_lo h3]
    congr 1
    by_cases h4:v<a+1
    · rw [if_pos h4]
      by_cases h5:v<a
      · rw [if_pos h5]
      · rw [if_neg h5,if_pos (by omega)]
    · rw [if_neg h4,if_neg (by omega),if_neg (by omega)]
      split<;>rfl
  · obtain ⟨e,rfl⟩:=Nat.exists_eq_add_of_le (Nat.not_lt.1 h3)
    rw [arG_hi (by omega),arG_hi (by omega)]
theorem arG_start (g:GmT) (num den:Int) (q:Nat):arG g num den q 0 0=List.replicate g.list.length []:=by
  refine ext_getL (by rw [arG_len];simp) fun v hv => ?_
  have hv:v<g.list.length:=by simpa using hv
  rw [arG_lo hv,if_neg (by omega),show (if v=0 then 0 else 0)=0 by split<;>rfl]
  simp [arNo,arRow,hv]
theorem cfG_next (g:GmT) (k:Nat):cfG g k++[true]=cfG g (k+1):=by
  unfold cfG
  rw [List.append_assoc,← List.replicate_succ']
theorem arEd_succ {g:GmT} {num den:Int} {q a r k:Nat} (hr:r<q) (hk:k<((g.ch.getD a []).getD r []).length):(arEd g num den q (a*q+r)).take (k+1)=(arEd g num den q (a*q+r)).take k++[[(((g.ch.getD a []).getD r []).getD k []).getD 1 0,den*(((g.ch.getD a []).getD r []).getD k []).getD 2 0-num*(((g.ch.getD a []).getD r []).getD k []).getD 3 0]]:=by
  have hl:=arEd_len g num den q (a*q+r)
  obtain ⟨h1,h2⟩:=node_div (i:=a) hr
  rw [h1,h2] at hl
  have hat:=arEd_at (g:=g) (num:=num) (den:=den) (q:=q) (e:=a*q+r) (k:=k) (by rw [h1,h2];exact hk)
  rw [h1,h2] at hat
  rw [take_getD (by omega) [],hat]
  rfl
set_option maxRecDepth 8000 in
set_option maxHeartbeats 4000000 in
theorem arenaFor_h {m s:List (List Int)} {g:GmT} (hf:GmFull m s g) {num den:Int} (hn:0≤num∧num≤1000000) (hd:0≤den∧den≤1000000):DoesH Try.prog 47 [gI g,.int num,.int den] [] [] (.lf (.ptr 0 0)) (arO (cfX s g) (arGX s g num den)):=by
  have hle:=hf.le
  have hcl:=hf.clen
  have hpl:=prob_len hf.prob
  have hq4:g.list.length*s.length≤60*4:=Nat.mul_le_mul hle (by omega)
  refine spec_hB Try.func47 rfl Try.ntmps47 cfOK (fun _ _=>by kernel_rfl) rfl rfl rfl ?_
  intro M0 w0 S φ0
  rw [Try.results47]
  refine amGo ?_
  (refine awp_nil 0 0 4 (.bo []) rfl rfl rfl (by first | trivial | (intro _ h;cases h)) ?_;simp only [xr,simprocAttr])
  (refine awp_nil 0 1 121 (.ki 2 []) rfl rfl rfl (by first | trivial | (intro _ h;cases h)) ?_;simp only [xr,simprocAttr])
  (refine awp_toT 2 123 [] rfl rfl rfl ?_;simp only [xu,simprocAttr])
  refine amGo ?_
  refine awp_rounds (α:=Nat) (fun k=>[(22,true,.int k)]) [0,1,2,7,21] (fun k=>arO (List.replicate k false) (List.replicate k [])) (fun k=>k≤g.list.length) (fun k=>g.list.length-k) 0 (by ((try simp only [xk]);(repeat (refine leK_cons ?_ ?_;first | (exact amE) | rotate_left));(refine leK_nil ?_;exact (by rfl));(all_goals (try (simp only [xr,simprocAttr];try refine int_eq1 ?_))))) (Nat.zero_le _) fun k hk => ?_
  simp only [xr,simprocAttr]
  refine amGo ?_
  refine awp_cond amQ (fun hc => ?_) (fun hc => ?_)
  · have hc:=of_decide_eq_true hc
    refine amGo ?_
    (refine .inr (.inl (callW_a [0,1,2] (node_h (List.replicate k false) (List.replicate k []) false (by simp;omega) (by simp;omega)) rfl rfl rfl rfl ⟨rfl,rfl,rfl,trivial⟩ rfl rfl rfl rfl ?_));refine amC ?_)
    refine amGo ?_
    refine ⟨k+1,by omega,by omega,.inl ?_⟩
    ((try simp only [xk]);(repeat (refine leK_cons ?_ ?_;first | (exact amE) | rotate_left));(refine leK_nil ?_;exact (by rw [List.replicate_succ',List.replicate_succ']));(all_goals (try (simp only [xr,simprocAttr];try refine int_eq1 ?_))))
  · have hc:=of_decide_eq_false hc
    have hk':k=g.list.length:=by omega
    subst hk'
    refine amGo ?_
    refine awp_rounds (α:=Nat) (fun a=>[(32,true,.int a)]) [0,1,2,7,30,31] (fun a=>arO (cfG g (a*s.length)) (arG g num den s.length a 0)) (fun a=>a≤g.list.length) (fun a=>g.list.length-a) 0 (by ((try simp only [xk]);(repeat (refine leK_cons ?_ ?_;first | (exact amE) | rotate_left));(refine leK_nil ?_;exact (by rw [arG_start,Nat.zero_mul];unfold cfG;rw [List.replicate_zero,List.append_nil]));(all_goals (try (simp only [xr,simprocAttr];try refine int_eq1 ?_))))) (Nat.zero_le _) fun a ha => ?_
    simp only [xr,simprocAttr]
    refine amGo ?_
    refine awp_cond amQ (fun hc2 => ?_) (fun hc2 => ?_)
    · have hc2:=of_decide_eq_true hc2
      have ha':a<g.list.length:=by omega
      have hrl:=hf.c.len a (by omega)
      refine amGo ?_
      refine awp_rounds (α:=Nat) (fun r=>[(39,true,.int r)]) [0,1,2,7,8,9,30,31,32,37,38] (fun r=>arO (cfG g (a*s.length+r)) (arG g num den s.length a r)) (fun r=>r≤s.length) (fun r=>s.length-r) 0 (by ((try simp only [xk]);(repeat (refine leK_cons ?_ ?_;first | (exact amE) | rotate_left));(refine leK_nil ?_;exact (by rfl));(all_goals (try (simp only [xr,simprocAttr];try refine int_eq1 ?_))))) (Nat.zero_le _) fun r hr => ?_
      simp only [xr,simprocAttr]
      refine amGo ?_
      refine awp_cond amQ (fun hd2 => ?_) (fun hd2 => ?_)
      · have hd2:=of_decide_eq_true hd2
        have hr':r<s.length:=by omega
        have hnl:=node_lt ha' hr'
        have hL1:=cfG_len g (a*s.length+r)
        have hL2:=arG_len g num den s.length a r
        have hok:=hf.c.row a r (by omega) hr'
        have hrow4:=row_len hf.prob hok
        refine amGo ?_
        (refine .inr (.inl (callW_a [0,1,2] (node_h (cfG g (a*s.length+r)) (arG g num den s.length a r) true (by omega) (by omega)) rfl rfl rfl rfl ⟨rfl,rfl,rfl,trivial⟩ rfl rfl rfl rfl ?_));refine amC ?_)
        refine amGo ?_
        unfold arO
        have hlen:(Cn.ki 2 (arG g num den s.length a r++[[]])).len=g.list.length+(a*s.length+r)+1:=by show (arG g num den s.length a r++[[]]).length=_;simp [hL2]
        have hlen':(arG g num den s.length a r++[[]]).length=g.list.length+(a*s.length+r)+1:=by simp [hL2]
        have hrow:(arG g num den s.length a r++[[]]).getD a []=arNo g.list.length s.length a r:=by
          show arRow _ _=_
          rw [app_row,arG_lo ha',if_neg (by omega),if_pos rfl]
        have hnl2:=arNo_len g.list.length s.length a r
        (refine awp_foc 2 (a) rfl amT ?_;simp only [xr,simprocAttr])
        rw [hrow,hL1]
        (refine amB ?_;refine awp_anyG 1 [(15,[4,3]),(17,[2,4])] [4,3] [(15,[]),(17,[])] ?_;refine amNG ?_)
        rw [← arNo_succ]
        refine amGo ?_
        generalize hA0:(arG g num den s.length a r++[[]]).set a (arNo g.list.length s.length a (r+1))=A0
        have hAl:A0.length=g.list.length+(a*s.length+r)+1:=by rw [← hA0,List.length_set,hlen']
        have hAK:arRow A0 (g.list.length+(a*s.length+r))=[]:=by
          rw [← hA0,set_row _ _ _ _ (by omega),if_neg (by omega),app_row]
          unfold arRow
          rw [List.getD_eq_getElem?_getD,List.getElem?_eq_none (by omega)]
          rfl
        have hA00:A0.set (g.list.length+(a*s.length+r)) ((arEd g num den s.length (a*s.length+r)).take 0)=A0:=by
          refine ext_getL (by simp) fun v hv => ?_
          rw [set_row _ _ _ _ (by omega)]
          split
          · rename_i e;rw [e,hAK];rfl
          · rfl
        have hel:=arEd_len g num den s.length (a*s.length+r)
        rw [(node_div hr').1,(node_div hr').2] at hel
        refine awp_rounds (α:=Nat) (fun k=>[(64,true,.int k)]) [0,1,2,7,8,9,11,12,30,31,32,37,38,39,62,63] (fun k=>arO (cfG g (a*s.length+r)++[true]) (A0.set (g.list.length+(a*s.length+r)) ((arEd g num den s.length (a*s.length+r)).take k))++[.gone,.gone]) (fun k=>k≤((g.ch.getD a []).getD r []).length) (fun k=>((g.ch.getD a []).getD r []).length-k) 0 (by ((try simp only [xk]);(repeat (refine leK_cons ?_ ?_;first | (exact amE) | rotate_left));(refine leK_nil ?_;exact (by rw [hA00]));(all_goals (try (simp only [xr,simprocAttr];try refine int_eq1 ?_))))) (Nat.zero_le _) fun k hk => ?_
        have htl:((arEd g num den s.length (a*s.length+r)).take k).length=k:=by rw [List.length_take,hel];omega
        simp only [xr,simprocAttr]
        refine amGo ?_
        refine awp_cond amQ (fun he => ?_) (fun he => ?_)
        · have he:=of_decide_eq_true he
          have hk':k<((g.ch.getD a []).getD r []).length:=by omega
          have hmem:((g.ch.getD a []).getD r []).getD k []∈(g.ch.getD a []).getD r []:=by rw [getD_in hk'];exact List.getElem_mem hk'
          obtain ⟨t,u,x,y,hce,ht,hu,hx0,hx1,hy0,hy1⟩:=hok.el _ hmem
          have hsucc:=arEd_succ (g:=g) (num:=num) (den:=den) hr' hk'
          rw [hce] at hsucc
          have m1:=Int.mul_nonneg hd.1 hx0
          have m2:=Int.mul_le_mul hd.2 hx1 hx0 (by omega)
          have m3:=Int.mul_nonneg hn.1 hy0
          have m4:=Int.mul_le_mul hn.2 hy1 hy0 (by omega)
          have hlen2:(Cn.ki 2 (A0.set (g.list.length+(a*s.length+r)) ((arEd g num den s.length (a*s.length+r)).take k))).len=g.list.length+(a*s.length+r)+1:=by show (A0.set _ _).length=_;rw [List.length_set,hAl]
          have hrowK:(A0.set (g.list.length+(a*s.length+r)) ((arEd g num den s.length (a*s.length+r)).take k)).getD (g.list.length+(a*s.length+r)) []=(arEd g num den s.length (a*s.length+r)).take k:=by
            show arRow _ _=_
            rw [set_row _ _ _ _ (by omega),if_pos rfl]
          refine amGo ?_
          rw [hce]
          simp only [xr,simprocAttr]
          (refine awp_foc 2 (g.list.length+(a*s.length+r)) rfl amT ?_;simp only [xr,simprocAttr])
          rw [hrowK]
          (refine amB ?_;refine awp_anyG 1 [(28,[7,6]),(30,[2,7])] [7,6] [(28,[]),(30,[])] ?_;refine amNG ?_)
          refine amGo ?_
          have hsucc':(arEd g num den s.length (a*s.length+r)).take (k+1)=(arEd g num den s.length (a*s.length+r)).take k++[[(t:Int),den*x-num*y]]:=hsucc
          refine ⟨k+1,by omega,by omega,.inr ⟨5,Nat.le_of_ble_eq_true rfl,leT_of ?_ rfl rfl rfl⟩⟩
          ((try simp only [xk]);(repeat (refine leK_cons ?_ ?_;first | (exact amE) | rotate_left));(refine leK_nil ?_;exact (by rw [hsucc',List.set_set];rfl));(all_goals (try (simp only [xr,simprocAttr];try refine int_eq1 ?_))))
        · have he:=of_decide_eq_false he
          have hk':k=((g.ch.getD a []).getD r []).length:=by omega
          have hfull:(arEd g num den s.length (a*s.length+r)).take k=arEd g num den s.length (a*s.length+r):=List.take_of_length_le (by omega)
          have hnext:=arG_next (g:=g) (num:=num) (den:=den) (q:=s.length) (r:=r) ha'
          rw [hA0] at hnext
          rw [hfull,hnext,cfG_next]
          refine amGo ?_
          refine ⟨r+1,by omega,by omega,.inr ⟨3,Nat.le_of_ble_eq_true rfl,leT_of ?_ rfl rfl rfl⟩⟩
          ((try simp only [xk]);(repeat (refine leK_cons ?_ ?_;first | (exact amE) | rotate_left));(refine leK_nil ?_;exact (by rfl));(all_goals (try (simp only [xr,simprocAttr];try refine int_eq1 ?_))))
      · have hd2:=of_decide_eq_false hd2
        have hr':r=s.length:=by omega
        subst hr'
        have hmul:(a+1)*s.length=a*s.length+s.length:=by rw [Nat.add_mul,Nat.one_mul]
        refine amGo ?_
        refine ⟨a+1,by omega,by omega,.inl ?_⟩
        ((try simp only [xk]);(repeat (refine leK_cons ?_ ?_;first | (exact amE) | rotate_left));(refine leK_nil ?_;exact (by rw [← arG_done,hmul]));(all_goals (try (simp only [xr,simprocAttr];try refine int_eq1 ?_))))
    · have hc2:=of_decide_eq_false hc2
      have ha':a=g.list.length:=by omega
      subst ha'
      refine amGo ?_
      (simp only [ends_normal,ends_ret];refine retH_1 [0,1,2] rfl ⟨rfl,rfl,rfl,trivial⟩ rfl rfl rfl rfl rfl ?_;try rfl)
end Go.Proofs.Ytkcelmnbfbehbaa
/- The least credit on the machine: the program's function. Conditions: games that are whole, ratios in bounds. -/
set_option linter.all false
set_option linter.unusedSimpArgs false
set_option linter.unusedVariables false
namespace Go.Proofs.Ytkcelmnbfbehbaa
open Go Go.RowKit Am

theorem mxQ_le {w:List Int} {B:Int}:∀ k,mxN w k≤B↔∀ j,j≤k→w.getD j 0≤B
  | 0 => ⟨fun h j hj => by obtain rfl : j = 0 := by omega
                           exact h,fun h=>h 0 (Nat.le_refl _)⟩
  | k+1=>by
    show max (mxN w k) (w.getD (k+1) 0)≤B↔_
    have ih:=mxQ_le (w:=w) (B:=B) k
    constructor
    · intro h j hj
      by_cases e:j=k+1
      · subst e;omega
      · exact ih.1 (by omega) j (by omega)
    · intro h
      have h1:=ih.2 fun j hj=>h j (by omega)
      have h2:=h (k+1) (Nat.le_refl _)
      omega
theorem gmB_of {m s:List (List Int)} {g:GmT} (hf:GmFull m s g) {num den:Int} (hn:0≤num∧num≤1000000) (hd:0≤den∧den≤1000000):GmB m s g num den 119000000:=by
  have hcl:=hf.clen
  refine ⟨hf,hn.1,hd.1,fun i r k hi hr hk => ?_⟩
  have hrow:=hf.c.row i r (by omega) hr
  have hmem:((g.ch.getD i []).getD r []).getD k []∈(g.ch.getD i []).getD r []:=by rw [getD_in hk];exact List.getElem_mem hk
  obtain ⟨t,u,x,y,hce,ht,hu,hx0,hx1,hy0,hy1⟩:=hrow.el _ hmem
  have m1:=Int.mul_nonneg hd.1 hx0
  have m2:=Int.mul_le_mul hd.2 hx1 hx0 (by omega)
  have m3:=Int.mul_nonneg hn.1 hy0
  have m4:=Int.mul_le_mul hn.2 hy1 hy0 (by omega)
  rw [hce]
  show -119000000≤den*x-num*y∧den*x-num*y≤119000000
  omega
theorem arX_rows {m s:List (List Int)} {g:GmT} (hf:GmFull m s g) {num den:Int}:∀ v,v<(cfX s g).length→(arRow (arGX s g num den) v).length≤1000:=fun v hv=>by
  have hpl:=prob_len hf.prob
  have hcl:=hf.clen
  rw [cfG_len] at hv
  by_cases h:v<g.list.length
  · rw [arX_lo h,arNo_len];omega
  · obtain ⟨i,r,hi,hr,rfl⟩:=node_of (Nat.not_lt.1 h) hv
    rw [arX_hi hi hr,List.length_map]
    have:=row_len hf.prob (hf.c.row i r (by omega) hr)
    omega
end Go.Proofs.Ytkcelmnbfbehbaa
