/- Arenas on the machine: the arena of a game. Conditions: games that are whole, ratios in bounds. -/
import Derived.Test.YtkcelmnbfbehbaaRA2
import Derived.Test.YtkcelmnbfbehbaaRA3
import Derived.Test.YtkcelmnbfbehbaaMaxQ
set_option linter.all false
set_option linter.unusedSimpArgs false
set_option linter.unusedVariables false
namespace Go.Proofs.Ytkcelmnbfbehbaa
open Go Go.RowKit Am

theorem ext_getL {xs ys:List (List (List Int))} (hl:xs.length=ys.length) (h:∀ v,v<ys.length→arRow xs v=arRow ys v):xs=ys :=
  List.ext_getElem hl fun v hv hv'=>by
    have:=h v hv'
    unfold arRow at this
    simpa [List.getD_eq_getElem?_getD,hv,hv'] using this
theorem set_row (xs:List (List (List Int))) (v u:Nat) (x:List (List Int)) (hv:v<xs.length):arRow (xs.set v x) u=if u=v then x else arRow xs u:=by
  unfold arRow
  simp only [List.getD_eq_getElem?_getD,List.getElem?_set]
  by_cases e:v=u
  · subst e;simp [hv]
  · rw [if_neg e,if_neg fun e2=>e e2.symm]
theorem app_row (xs:List (List (List Int))) (u:Nat):arRow (xs++[[]]) u=arRow xs u:=by
  unfold arRow
  simp only [List.getD_eq_getElem?_getD]
  by_cases h:u<xs.length
  · rw [List.getElem?_append_left h]
  · rw [List.getElem?_append_right (by omega),List.getElem?_eq_none (Nat.not_lt.1 h)]
    by_cases e:u-xs.length=0
    · rw [e];rfl
    · rw [List.getElem?_eq_none (by simp;omega)]
theorem arNo_succ (n q j c:Nat):arNo n q j (c+1)=arNo n q j c++[[((n+(j*q+c):Nat):Int),0]]:=by simp [arNo,List.range_succ]
theorem arG_next {g:GmT} {num den:Int} {q a r:Nat} (ha:a<g.list.length):((arG g num den q a r++[[]]).set a (arNo g.list.length q a (r+1))).set (g.list.length+(a*q+r)) (arEd g num den q (a*q+r))=arG g num den q a (r+1):=by
  have hl:=arG_len g num den q a r
  have hl2:=arG_len g num den q a (r+1)
  refine ext_getL (by simp [hl,hl2];omega) fun v hv => ?_
  rw [hl2] at hv
  rw [set_row _ _ _ _ (by simp [hl]),set_row _ _ _ _ (by simp [hl];omega),app_row]
  by_cases h1:v=g.list.length+(a*q+r)
  · rw [if_pos h1,h1,arG_hi (by omega)]
  · rw [if_neg h1]
    by_cases h2:v=a
    · rw [if_pos h2,h2,arG_lo ha,if_neg (by omega),if_pos rfl]
    · rw [if_neg h2]
      by_cases h3:v<g.list.length
      · rw [arG_lo h3,arG_lo h3,if_neg h2,if_neg h2]
      · obtain ⟨e,rfl⟩:=Nat.exists_eq_add_of_le (Nat.not_lt.1 h3)
        rw [arG_hi (by omega),arG_hi (by omega)]
theorem arG_done {g:GmT} {num den:Int} {q a:Nat}:arG g num den q a q=arG g num den q (a+1) 0:=by
  have hl:=arG_len g num den q a q
  have hl2:=arG_len g num den q (a+1) 0
  have he:(a+1)*q+0=a*q+q:=by rw [Nat.add_mul];omega
  refine ext_getL (by rw [hl,hl2,he]) fun v hv => ?_
  rw [hl2] at hv
  by_cases h3:v<g.list.length
  · rw [arG_lo h3,arG_lo h3]
    congr 1
    by_cases h4:v<a+1
    · rw [if_pos h4]
      by_cases h5:v<a
      · rw [if_pos h5]
      · rw [if_neg h5,if_pos (by omega)]
    · rw [if_neg h4,if_neg (by omega),if_neg (by omega)]
      split<;>rfl
  · obtain ⟨e,rfl⟩:=Nat.exists_eq_add_of_le (Nat.not_lt.1 h3)
    rw [arG_hi (by omega),arG_hi (by omega)]
theorem arG_start (g:GmT) (num den:Int) (q:Nat):arG g num den q 0 0=List.replicate g.list.length []:=by
  refine ext_getL (by rw [arG_len];simp) fun v hv => ?_
  have hv:v<g.list.length:=by simpa using hv
  rw [arG_lo hv,if_neg (by omega),show (if v=0 then 0 else 0)=0 by split<;>rfl]
  simp [arNo,arRow,hv]
theorem cfG_next (g:GmT) (k:Nat):cfG g k++[true]=cfG g (k+1):=by
  unfold cfG
  rw [List.append_assoc,← List.replicate_succ']
theorem arEd_succ {g:GmT} {num den:Int} {q a r k:Nat} (hr:r<q) (hk:k<((g.ch.getD a []).getD r []).length):(arEd g num den q (a*q+r)).take (k+1)=(arEd g num den q (a*q+r)).take k++[[(((g.ch.getD a []).getD r []).getD k []).getD 1 0,den*(((g.ch.getD a []).getD r []).getD k []).getD 2 0-num*(((g.ch.getD a []).getD r []).getD k []).getD 3 0]]:=by
  have hl:=arEd_len g num den q (a*q+r)
  obtain ⟨h1,h2⟩:=node_div (i:=a) hr
  rw [h1,h2] at hl
  have hat:=arEd_at (g:=g) (num:=num) (den:=den) (q:=q) (e:=a*q+r) (k:=k) (by rw [h1,h2];exact hk)
  rw [h1,h2] at hat
  rw [take_getD (by omega) [],hat]
  rfl
set_option maxRecDepth 8000 in
set_option maxHeartbeats 4000000 in
theorem arenaFor_h {m s:List (List Int)} {g:GmT} (hf:GmFull m s g) {num den:Int} (hn:0≤num∧num≤1000000) (hd:0≤den∧den≤1000000):DoesH Try.prog 47 [gI g,.int num,.int den] [] [] (.lf (.ptr 0 0)) (arO (cfX s g) (arGX s g num den)):=by
  have hle:=hf.le
  have hcl:=hf.clen
  have hpl:=prob_len hf.prob
  have hq4:g.list.length*s.length≤60*4:=Nat.mul_le_mul hle (by omega)
  refine spec_hB Try.func47 rfl Try.ntmps47 cfOK (fun _ _=>by kernel_rfl) rfl rfl rfl ?_
  intro M0 w0 S φ0
  rw [Try.results47]
  refine amGo ?_
  (refine awp_nil 0 0 4 (.bo []) rfl rfl rfl (by first | trivial | (intro _ h;cases h)) ?_;simp only [xr,simprocAttr])
  (refine awp_nil 0 1 121 (.ki 2 []) rfl rfl rfl (by first | trivial | (intro _ h;cases h)) ?_;simp only [xr,simprocAttr])
  (refine awp_toT 2 123 [] rfl rfl rfl ?_;simp only [xu,simprocAttr])
  refine amGo ?_
  refine awp_rounds (α:=Nat) (fun k=>[(22,true,.int k)]) [0,1,2,7,21] (fun k=>arO (List.replicate k false) (List.replicate k [])) (fun k=>k≤g.list.length) (fun k=>g.list.length-k) 0 (by ((try simp only [xk]);(repeat (refine leK_cons ?_ ?_;first | (exact amE) | rotate_left));(refine leK_nil ?_;exact (by rfl));(all_goals (try (simp only [xr,simprocAttr];try refine int_eq1 ?_))))) (Nat.zero_le _) fun k hk => ?_
  simp only [xr,simprocAttr]
  refine amGo ?_
  refine awp_cond amQ (fun hc => ?_) (fun hc => ?_)
  · have hc:=of_decide_eq_true hc
    refine amGo ?_
    (refine .inr (.inl (callW_a [0,1,2] (node_h (List.replicate k false) (List.replicate k []) false (by simp;omega) (by simp;omega)) rfl rfl rfl rfl ⟨rfl,rfl,rfl,trivial⟩ rfl rfl rfl rfl ?_));refine amC ?_)
    refine amGo ?_
    refine ⟨k+1,by omega,by omega,.inl ?_⟩
    ((try simp only [xk]);(repeat (refine leK_cons ?_ ?_;first | (exact amE) | rotate_left));(refine leK_nil ?_;exact (by rw [List.replicate_succ',List.replicate_succ']));(all_goals (try (simp only [xr,simprocAttr];try refine int_eq1 ?_))))
  · have hc:=of_decide_eq_false hc
    have hk':k=g.list.length:=by omega
    subst hk'
    refine amGo ?_
    refine awp_rounds (α:=Nat) (fun a=>[(32,true,.int a)]) [0,1,2,7,30,31] (fun a=>arO (cfG g (a*s.length)) (arG g num den s.length a 0)) (fun a=>a≤g.list.length) (fun a=>g.list.length-a) 0 (by ((try simp only [xk]);(repeat (refine leK_cons ?_ ?_;first | (exact amE) | rotate_left));(refine leK_nil ?_;exact (by rw [arG_start,Nat.zero_mul];unfold cfG;rw [List.replicate_zero,List.append_nil]));(all_goals (try (simp only [xr,simprocAttr];try refine int_eq1 ?_))))) (Nat.zero_le _) fun a ha => ?_
    simp only [xr,simprocAttr]
    refine amGo ?_
    refine awp_cond amQ (fun hc2 => ?_) (fun hc2 => ?_)
    · have hc2:=of_decide_eq_true hc2
      have ha':a<g.list.length:=by omega
      have hrl:=hf.c.len a (by omega)
      refine amGo ?_
      refine awp_rounds (α:=Nat) (fun r=>[(39,true,.int r)]) [0,1,2,7,8,9,30,31,32,37,38] (fun r=>arO (cfG g (a*s.length+r)) (arG g num den s.length a r)) (fun r=>r≤s.length) (fun r=>s.length-r) 0 (by ((try simp only [xk]);(repeat (refine leK_cons ?_ ?_;first | (exact amE) | rotate_left));(refine leK_nil ?_;exact (by rfl));(all_goals (try (simp only [xr,simprocAttr];try refine int_eq1 ?_))))) (Nat.zero_le _) fun r hr => ?_
      simp only [xr,simprocAttr]
      refine amGo ?_
      refine awp_cond amQ (fun hd2 => ?_) (fun hd2 => ?_)
      · have hd2:=of_decide_eq_true hd2
        have hr':r<s.length:=by omega
        have hnl:=node_lt ha' hr'
        have hL1:=cfG_len g (a*s.length+r)
        have hL2:=arG_len g num den s.length a r
        have hok:=hf.c.row a r (by omega) hr'
        have hrow4:=row_len hf.prob hok
        refine amGo ?_
        (refine .inr (.inl (callW_a [0,1,2] (node_h (cfG g (a*s.length+r)) (arG g num den s.length a r) true (by omega) (by omega)) rfl rfl rfl rfl ⟨rfl,rfl,rfl,trivial⟩ rfl rfl rfl rfl ?_));refine amC ?_)
        refine amGo ?_
        unfold arO
        have hlen:(Cn.ki 2 (arG g num den s.length a r++[[]])).len=g.list.length+(a*s.length+r)+1:=by show (arG g num den s.length a r++[[]]).length=_;simp [hL2]
        have hlen':(arG g num den s.length a r++[[]]).length=g.list.length+(a*s.length+r)+1:=by simp [hL2]
        have hrow:(arG g num den s.length a r++[[]]).getD a []=arNo g.list.length s.length a r:=by
          show arRow _ _=_
          rw [app_row,arG_lo ha',if_neg (by omega),if_pos rfl]
        have hnl2:=arNo_len g.list.length s.length a r
        (refine awp_foc 2 (a) rfl amT ?_;simp only [xr,simprocAttr])
        rw [hrow,hL1]
        (refine amB ?_;refine awp_anyG 1 [(15,[4,3]),(17,[2,4])] [4,3] [(15,[]),(17,[])] ?_;refine amNG ?_)
        rw [← arNo_succ]
        refine amGo ?_
        generalize hA0:(arG g num den s.length a r++[[]]).set a (arNo g.list.length s.length a (r+1))=A0
        have hAl:A0.length=g.list.length+(a*s.length+r)+1:=by rw [← hA0,List.length_set,hlen']
        have hAK:arRow A0 (g.list.length+(a*s.length+r))=[]:=by
          rw [← hA0,set_row _ _ _ _ (by omega),if_neg (by omega),app_row]
          unfold arRow
          rw [List.getD_eq_getElem?_getD,List.getElem?_eq_none (by omega)]
          rfl
        have hA00:A0.set (g.list.length+(a*s.length+r)) ((arEd g num den s.length (a*s.length+r)).take 0)=A0:=by
          refine ext_getL (by simp) fun v hv => ?_
          rw [set_row _ _ _ _ (by omega)]
          split
          · rename_i e;rw [e,hAK];rfl
          · rfl
        have hel:=arEd_len g num den s.length (a*s.length+r)
        rw [(node_div hr').1,(node_div hr').2] at hel
        refine awp_rounds (α:=Nat) (fun k=>[(64,true,.int k)]) [0,1,2,7,8,9,11,12,30,31,32,37,38,39,62,63] (fun k=>arO (cfG g (a*s.length+r)++[true]) (A0.set (g.list.length+(a*s.length+r)) ((arEd g num den s.length (a*s.length+r)).take k))++[.gone,.gone]) (fun k=>k≤((g.ch.getD a []).getD r []).length) (fun k=>((g.ch.getD a []).getD r []).length-k) 0 (by ((try simp only [xk]);(repeat (refine leK_cons ?_ ?_;first | (exact amE) | rotate_left));(refine leK_nil ?_;exact (by rw [hA00]));(all_goals (try (simp only [xr,simprocAttr];try refine int_eq1 ?_))))) (Nat.zero_le _) fun k hk => ?_
        have htl:((arEd g num den s.length (a*s.length+r)).take k).length=k:=by rw [List.length_take,hel];omega
        simp only [xr,simprocAttr]
        refine amGo ?_
        refine awp_cond amQ (fun he => ?_) (fun he => ?_)
        · have he:=of_decide_eq_true he
          have hk':k<((g.ch.getD a []).getD r []).length:=by omega
          have hmem:((g.ch.getD a []).getD r []).getD k []∈(g.ch.getD a []).getD r []:=by rw [getD_in hk'];exact List.getElem_mem hk'
          obtain ⟨t,u,x,y,hce,ht,hu,hx0,hx1,hy0,hy1⟩:=hok.el _ hmem
          have hsucc:=arEd_succ (g:=g) (num:=num) (den:=den) hr' hk'
          rw [hce] at hsucc
          have m1:=Int.mul_nonneg hd.1 hx0
          have m2:=Int.mul_le_mul hd.2 hx1 hx0 (by omega)
          have m3:=Int.mul_nonneg hn.1 hy0
          have m4:=Int.mul_le_mul hn.2 hy1 hy0 (by omega)
          have hlen2:(Cn.ki 2 (A0.set (g.list.length+(a*s.length+r)) ((arEd g num den s.length (a*s.length+r)).take k))).len=g.list.length+(a*s.length+r)+1:=by show (A0.set _ _).length=_;rw [List.length_set,hAl]
          have hrowK:(A0.set (g.list.length+(a*s.length+r)) ((arEd g num den s.length (a*s.length+r)).take k)).getD (g.list.length+(a*s.length+r)) []=(arEd g num den s.length (a*s.length+r)).take k:=by
            show arRow _ _=_
            rw [set_row _ _ _ _ (by omega),if_pos rfl]
          refine amGo ?_
          rw [hce]
          simp only [xr,simprocAttr]
          (refine awp_foc 2 (g.list.length+(a*s.length+r)) rfl amT ?_;simp only [xr,simprocAttr])
          rw [hrowK]
          (refine amB ?_;refine awp_anyG 1 [(28,[7,6]),(30,[2,7])] [7,6] [(28,[]),(30,[])] ?_;refine amNG ?_)
          refine amGo ?_
          have hsucc':(arEd g num den s.length (a*s.length+r)).take (k+1)=(arEd g num den s.length (a*s.length+r)).take k++[[(t:Int),den*x-num*y]]:=hsucc
          refine ⟨k+1,by omega,by omega,.inr ⟨5,Nat.le_of_ble_eq_true rfl,leT_of ?_ rfl rfl rfl⟩⟩
          ((try simp only [xk]);(repeat (refine leK_cons ?_ ?_;first | (exact amE) | rotate_left));(refine leK_nil ?_;exact (by rw [hsucc',List.set_set];rfl));(all_goals (try (simp only [xr,simprocAttr];try refine int_eq1 ?_))))
        · have he:=of_decide_eq_false he
          have hk':k=((g.ch.getD a []).getD r []).length:=by omega
          have hfull:(arEd g num den s.length (a*s.length+r)).take k=arEd g num den s.length (a*s.length+r):=List.take_of_length_le (by omega)
          have hnext:=arG_next (g:=g) (num:=num) (den:=den) (q:=s.length) (r:=r) ha'
          rw [hA0] at hnext
          rw [hfull,hnext,cfG_next]
          refine amGo ?_
          refine ⟨r+1,by omega,by omega,.inr ⟨3,Nat.le_of_ble_eq_true rfl,leT_of ?_ rfl rfl rfl⟩⟩
          ((try simp only [xk]);(repeat (refine leK_cons ?_ ?_;first | (exact amE) | rotate_left));(refine leK_nil ?_;exact (by rfl));(all_goals (try (simp only [xr,simprocAttr];try refine int_eq1 ?_))))
      · have hd2:=of_decide_eq_false hd2
        have hr':r=s.length:=by omega
        subst hr'
        have hmul:(a+1)*s.length=a*s.length+s.length:=by rw [Nat.add_mul,Nat.one_mul]
        refine amGo ?_
        refine ⟨a+1,by omega,by omega,.inl ?_⟩
        ((try simp only [xk]);(repeat (refine leK_cons ?_ ?_;first | (exact amE) | rotate_left));(refine leK_nil ?_;exact (by rw [← arG_done,hmul]));(all_goals (try (simp only [xr,simprocAttr];try refine int_eq1 ?_))))
    · have hc2:=of_decide_eq_false hc2
      have ha':a=g.list.length:=by omega
      subst ha'
      refine amGo ?_
      (simp only [ends_normal,ends_ret];refine retH_1 [0,1,2] rfl ⟨rfl,rfl,rfl,trivial⟩ rfl rfl rfl rfl rfl ?_;try rfl)
end Go.Proofs.Ytkcelmnbfbehbaa
/- The least credit on the machine: the program's function. Conditions: games that are whole, ratios in bounds. -/
set_option linter.all false
set_option linter.unusedSimpArgs false
set_option linter.unusedVariables false
namespace Go.Proofs.Ytkcelmnbfbehbaa
open Go Go.RowKit Am

theorem mxQ_le {w:List Int} {B:Int}:∀ k,mxN w k≤B↔∀ j,j≤k→w.getD j 0≤B
  | 0 => ⟨fun h j hj => by obtain rfl : j = 0 := by omega
                           exact h,fun h=>h 0 (Nat.le_refl _)⟩
  | k+1=>by
    show max (mxN w k) (w.getD (k+1) 0)≤B↔_
    have ih:=mxQ_le (w:=w) (B:=B) k
    constructor
    · intro h j hj
      by_cases e:j=k+1
      · subst e;omega
      · exact ih.1 (by omega) j (by omega)
    · intro h
      have h1:=ih.2 fun j hj=>h j (by omega)
      have h2:=h (k+1) (Nat.le_refl _)
      omega
theorem gmB_of {m s:List (List Int)} {g:GmT} (hf:GmFull m s g) {num den:Int} (hn:0≤num∧num≤1000000) (hd:0≤den∧den≤1000000):GmB m s g num den 119000000:=by
  have hcl:=hf.clen
  refine ⟨hf,hn.1,hd.1,fun i r k hi hr hk => ?_⟩
  have hrow:=hf.c.row i r (by omega) hr
  have hmem:((g.ch.getD i []).getD r []).getD k []∈(g.ch.getD i []).getD r []:=by rw [getD_in hk];exact List.getElem_mem hk
  obtain ⟨t,u,x,y,hce,ht,hu,hx0,hx1,hy0,hy1⟩:=hrow.el _ hmem
  have m1:=Int.mul_nonneg hd.1 hx0
  have m2:=Int.mul_le_mul hd.2 hx1 hx0 (by omega)
  have m3:=Int.mul_nonneg hn.1 hy0
  have m4:=Int.mul_le_mul hn.2 hy1 hy0 (by omega)
  rw [hce]
  show -119000000≤den*x-num*y∧den*x-num*y≤119000000
  omega
theorem arX_rows {m s:List (List Int)} {g:GmT} (hf:GmFull m s g) {num den:Int}:∀ v,v<(cfX s g).length→(arRow (arGX s g num den) v).length≤1000:=fun v hv=>by
  have hpl:=prob_len hf.prob
  have hcl:=hf.clen
  rw [cfG_len] at hv
  by_cases h:v<g.list.length
  · rw [arX_lo h,arNo_len];omega
  · obtain ⟨i,r,hi,hr,rfl⟩:=node_of (Nat.not_lt.1 h) hv
    rw [arX_hi hi hr,List.length_map]
    have:=row_len hf.prob (hf.c.row i r (by omega) hr)
    omega
/-- what solving the arena of a game for a ratio comes to -/
theorem solve_k {m s:List (List Int)} {g:GmT} (hf:GmFull m s g) {num den:Int} (hn:0≤num∧num≤1000000) (hd:0≤den∧den≤1000000):∃ (W:List Int) (b:Int),W.length=(cfX s g).length∧0<W.length∧DoesH Try.prog 48 [aI (cfX s g) (arGX s g num den)] [] [] (.tup [.one (.own 0),.one (.b (.val (.int .i64 b)))]) [.row 3 (.ints W)] ∧
    (mxN W (W.length-1)≤b↔∃ C,CrP g.list.length (rqR s) (gmE g num den) C):=by
  have hB:=gmB_of hf hn hd
  have hok:=arX_el hB (by omega)
  have hok2:=scl_ok hok
  have hle:=hf.le
  have hpl:=prob_len hf.prob
  have hpos:=hf.pos
  have hq4:g.list.length*s.length≤60*4:=Nat.mul_le_mul hle (by omega)
  have hcl:(cfX s g).length=g.list.length+g.list.length*s.length:=cfG_len g (g.list.length*s.length)
  generalize hKd:moA (((arGX s g num den).length:Int)+1) (arGX s g num den) (arGX s g num den).length=K
  have hA:=moA_ge (((arGX s g num den).length:Int)+1) (arGX s g num den) (arGX s g num den).length
  have hA1:=hA.1
  have hA2:=hA.2
  rw [hKd] at hA1 hA2 hok2
  have hal:(arGX s g num den).length=g.list.length+g.list.length*s.length:=by rw [arG_len];omega
  have hmul0:=Int.mul_nonneg (show 0≤((arGX s g num den).length:Int)+1 by omega) (show 0≤K by omega)
  obtain ⟨hc,ks,W,hX⟩:=arX_start (great:=4*((((arGX s g num den).length:Int)+1)*K)) hok2 (show 0≤K by omega) (by omega)
  have hend:=arX_end hX hc hok2 (by omega)
  have hWl:W.length=(cfX s g).length:=by
    obtain ⟨ch',_,h2,_⟩:=hX.fin hc
    exact h2.len
  have hB2:GmB m s g num den ((K+1) / (((arGX s g num den).length:Int)+1)):=⟨hf,hn.1,hd.1,fun i r k hi hr hk=>by
    have hnl:=node_lt hi hr
    have h1:=hA2 (g.list.length+(i*s.length+r)) (by omega) k (by rw [arX_hi hi hr,List.length_map];exact hk)
    rw [arX_hi hi hr,map_at hk [] []] at h1
    have h2 : -K≤gainC num den (((g.ch.getD i []).getD r []).getD k [])*(((arGX s g num den).length:Int)+1)-1∧gainC num den (((g.ch.getD i []).getD r []).getD k [])*(((arGX s g num den).length:Int)+1)-1≤K:=h1
    have h3:gainC num den (((g.ch.getD i []).getD r []).getD k [])≤(K+1) / (((arGX s g num den).length:Int)+1):=Int.le_ediv_of_mul_le (by omega) (by omega)
    have h4 : -gainC num den (((g.ch.getD i []).getD r []).getD k [])≤(K+1) / (((arGX s g num den).length:Int)+1):=Int.le_ediv_of_mul_le (by omega) (by rw [Int.neg_mul];omega)
    omega⟩
  have hGK:(((arGX s g num den).length:Int)+1)*((K+1) / (((arGX s g num den).length:Int)+1))≤K+1:=Int.mul_ediv_self_le (by omega)
  have hG0:0≤(K+1) / (((arGX s g num den).length:Int)+1):=Int.ediv_nonneg (by omega) (by omega)
  subst hKd
  refine ⟨W,_,hWl,by omega,solved_h hok (by omega) (by omega) (arX_rows hf) (by omega) hX,?_⟩
  rw [← arX_dec hB2 hG0 hA1 hGK hend,mxQ_le]
  constructor
  · intro h v hv
    exact h v (by omega)
  · intro h v hv
    exact h v (by omega)
end Go.Proofs.Ytkcelmnbfbehbaa
/- The least credit on the machine: the program's function, by rounds. Conditions: games that are whole, ratios in bounds. -/
set_option linter.all false
set_option linter.unusedSimpArgs false
set_option linter.unusedVariables false
namespace Go.Proofs.Ytkcelmnbfbehbaa
open Go Go.RowKit Am

theorem credit_n {m s:List (List Int)} {g:GmT} (hf:GmFull m s g) {num den:Int} (hn:0≤num∧num≤1000000) (hd:0≤den∧den≤1000000) (hno:¬ ∃ C,CrP g.list.length (rqR s) (gmE g num den) C):Does Try.prog 27 [gI g,frA (num,den)] (.imm (.tup [.one (.b (.val (.slice none 0 0))),.one (.b (.val (.bool false)))])):=by
  obtain ⟨W,b,hWl,hW0,hS,hdec⟩:=solve_k hf hn hd
  refine spec_imm Try.func27 rfl Try.ntmps27 cfOK (fun _ _=>by kernel_rfl) rfl (Nat.le_of_ble_eq_true rfl) ?_
  intro M0 w0
  rw [Try.results27]
  refine amGo ?_
  (refine .inr (.inl (callW_b (arenaFor_h hf hn hd) rfl rfl rfl rfl rfl rfl rfl ?_));refine amC ?_)
  (refine .inr (.inl (callW_b (hS) rfl rfl rfl rfl rfl rfl rfl ?_));refine amC ?_)
  refine amGo ?_
  ((try refine Or.inl ?_);refine ⟨_,(sliceMaxQ_d W hW0),.inl rfl,?_⟩;refine amC ?_)
  refine amGo ?_
  refine awp_cond amQ (fun hc => ?_) (fun hc => ?_)
  · refine amGo ?_
    (simp only [xe,simprocAttr];refine ⟨[_,_],⟨rfl,rfl,trivial⟩,rfl,Imp.eq ?_⟩)
    rfl
  · have hc:=of_decide_eq_false hc
    exact absurd (hdec.1 (by omega)) hno
set_option maxHeartbeats 2000000 in
theorem credit_y {m s:List (List Int)} {g:GmT} (hf:GmFull m s g) {num den:Int} (hn:0≤num∧num≤1000000) (hd:0≤den∧den≤1000000) {L:List Int} (hL:LcL s g num den L):DoesH Try.prog 27 [gI g,frA (num,den)] [] [] (.tup [.one (.own 0),.one (.b (.val (.bool true)))]) [.row 3 (.ints L)]:=by
  obtain ⟨W,b,hWl,hW0,hS,hdec⟩:=solve_k hf hn hd
  have hB:=gmB_of hf hn hd
  have hle:=hf.le
  have hcl:=hf.clen
  have hpl:=prob_len hf.prob
  have hLl:=hL.len
  have hLb:∀ i,i<g.list.length→0≤L.getD i 0∧L.getD i 0≤60*119000000:=fun i hi=>lcl_bd hB (by omega) hL hi
  refine spec_hB Try.func27 rfl Try.ntmps27 cfOK (fun _ _=>by kernel_rfl) rfl rfl rfl ?_
  intro M0 w0 S φ0
  rw [Try.results27]
  refine amGo ?_
  (refine .inr (.inl (callW_b (arenaFor_h hf hn hd) rfl rfl rfl rfl rfl rfl rfl ?_));refine amC ?_)
  (refine .inr (.inl (callW_b (hS) rfl rfl rfl rfl rfl rfl rfl ?_));refine amC ?_)
  refine amGo ?_
  ((try refine Or.inl ?_);refine ⟨_,(sliceMaxQ_d W hW0),.inl rfl,?_⟩;refine amC ?_)
  refine amGo ?_
  refine awp_cond amQ (fun hc => ?_) (fun hc => ?_)
  · have hc:=of_decide_eq_true hc
    have:=hdec.2 ⟨_,hL.lc.1⟩
    omega
  refine amGo ?_
  refine awp_rounds (α:=List Int×Bool) (fun a=>[(9,true,.bool a.2)]) [0,3,8] (fun a=>[.box [.b (.val (.int .i64 num)),.b (.val (.int .i64 den))],.box [.own 2,.own 3],.row 4 (.bo (cfX s g)),.tree [121,123] (.ki 2 (arGX s g num den)),.row 3 (.ints W),.row 3 (.ints a.1)]) (fun a=>OutL g L a.1∧(a.2=false→∀ i r,i<g.list.length→r<s.length→miN num den ((g.ch.getD i []).getD r []) a.1 ((g.ch.getD i []).getD r []).length≤a.1.getD i 0)) (fun a=>(2*(sAI (fun u=>L.getD u 0) g.list.length-sAI (fun u=>a.1.getD u 0) g.list.length)).toNat+cond a.2 1 0) (List.replicate g.list.length 0,true) (by ((try simp only [xk]);(repeat (refine leK_cons ?_ ?_;first | (exact amE) | rotate_left));(refine leK_nil ?_;exact (by rfl));(all_goals (try (simp only [xr,simprocAttr];try refine int_eq1 ?_))))) ⟨⟨by simp,fun v hv=>by simp [hv],fun v hv=>by simp [hv];exact (hLb v hv).1⟩,fun h=>(by cases h)⟩ fun a ha => ?_
  obtain ⟨out,c⟩:=a
  obtain ⟨ho,hst⟩:=ha
  have hl:=ho.len
  simp only at ho hst hl ⊢
  simp only [xr,simprocAttr]
  refine amGo ?_
  cases c
  · refine awp_cond amQ (fun h0 => ?_) (fun h0 => ?_)
    · cases h0
    · refine amGo ?_
      have:=outL_done hB (by omega) hL ho (hst rfl)
      subst this
      (simp only [ends_normal,ends_ret];refine retH_2 (vs:=[_,_]) [5] rfl ⟨rfl,trivial⟩ rfl rfl rfl rfl ⟨rfl,rfl,trivial⟩ ?_;try rfl)
  refine awp_cond amQ (fun h0 => ?_) (fun h0=>by cases h0)
  refine amGo ?_
  refine awp_rounds (α:=Nat×List Int×Bool) (fun a=>[(43,true,.int a.1),(9,true,.bool a.2.2)]) [0,3,8,41,42] (fun a=>[.box [.b (.val (.int .i64 num)),.b (.val (.int .i64 den))],.box [.own 2,.own 3],.row 4 (.bo (cfX s g)),.tree [121,123] (.ki 2 (arGX s g num den)),.row 3 (.ints W),.row 3 (.ints a.2.1)]) (fun a=>a.1≤g.list.length∧OutL g L a.2.1∧(a.2.2=false→a.2.1=out∧∀ i r,i<a.1→r<s.length→miN num den ((g.ch.getD i []).getD r []) out ((g.ch.getD i []).getD r []).length≤out.getD i 0)∧(a.2.2=true→sAI (fun u=>out.getD u 0) g.list.length<sAI (fun u=>a.2.1.getD u 0) g.list.length)) (fun a=>g.list.length-a.1) (0,out,false) (by ((try simp only [xk]);(repeat (refine leK_cons ?_ ?_;first | (exact amE) | rotate_left));(refine leK_nil ?_;exact (by rfl));(all_goals (try (simp only [xr,simprocAttr];try refine int_eq1 ?_))))) ⟨Nat.zero_le _,ho,fun _=>⟨rfl,fun i r hi=>absurd hi (Nat.not_lt_zero i)⟩,fun h=>(by cases h)⟩ fun a ha => ?_
  obtain ⟨i,o2,c⟩:=a
  obtain ⟨hi,ho2,hs2,hs3⟩:=ha
  have hl2:=ho2.len
  simp only at hi ho2 hs2 hs3 hl2 ⊢
  simp only [xr,simprocAttr]
  refine amGo ?_
  refine awp_cond amQ (fun h1 => ?_) (fun h1 => ?_)
  · have h1:=of_decide_eq_true h1
    have hi':i<g.list.length:=by omega
    have hrl:=hf.c.len i (by omega)
    refine amGo ?_
    refine awp_rounds (α:=Nat×List Int×Bool) (fun a=>[(50,true,.int a.1),(9,true,.bool a.2.2)]) [0,3,8,10,11,41,42,43,48,49] (fun a=>[.box [.b (.val (.int .i64 num)),.b (.val (.int .i64 den))],.box [.own 2,.own 3],.row 4 (.bo (cfX s g)),.tree [121,123] (.ki 2 (arGX s g num den)),.row 3 (.ints W),.row 3 (.ints a.2.1)]) (fun a=>a.1≤s.length∧OutL g L a.2.1∧(a.2.2=false→a.2.1=out∧(∀ i' r,i'<i→r<s.length→miN num den ((g.ch.getD i' []).getD r []) out ((g.ch.getD i' []).getD r []).length≤out.getD i' 0)∧∀ r,r<a.1→miN num den ((g.ch.getD i []).getD r []) out ((g.ch.getD i []).getD r []).length≤out.getD i 0)∧(a.2.2=true→sAI (fun u=>out.getD u 0) g.list.length<sAI (fun u=>a.2.1.getD u 0) g.list.length)) (fun a=>s.length-a.1) (0,o2,c) (by ((try simp only [xk]);(repeat (refine leK_cons ?_ ?_;first | (exact amE) | rotate_left));(refine leK_nil ?_;exact (by rfl));(all_goals (try (simp only [xr,simprocAttr];try refine int_eq1 ?_))))) ⟨Nat.zero_le _,ho2,fun h=>⟨(hs2 h).1,(hs2 h).2,fun r hr=>absurd hr (Nat.not_lt_zero r)⟩,hs3⟩ fun a ha => ?_
    obtain ⟨r,o3,c3⟩:=a
    obtain ⟨hr,ho3,hs4,hs5⟩:=ha
    have hl3:=ho3.len
    simp only at hr ho3 hs4 hs5 hl3 ⊢
    simp only [xr,simprocAttr]
    refine amGo ?_
    refine awp_cond amQ (fun h2 => ?_) (fun h2 => ?_)
    · have h2:=of_decide_eq_true h2
      have hr':r<s.length:=by omega
      have hok:=hf.c.row i r (by omega) hr'
      have hrow4:=row_len hf.prob hok
      have hmL:=miN_L hB hL ho3 hi' hr'
      have hLi:=hLb i hi'
      have ho3g:=ho3.ge i hi'
      have ho3l:=ho3.le i hi'
      refine amGo ?_
      refine awp_rounds (α:=Nat) (fun k=>[(56,true,.int k),(14,true,.int (miN num den ((g.ch.getD i []).getD r []) o3 k))]) [0,3,8,9,10,11,13,41,42,43,48,49,50,54,55] (fun k=>[.box [.b (.val (.int .i64 num)),.b (.val (.int .i64 den))],.box [.own 2,.own 3],.row 4 (.bo (cfX s g)),.tree [121,123] (.ki 2 (arGX s g num den)),.row 3 (.ints W),.row 3 (.ints o3)]) (fun k=>k≤((g.ch.getD i []).getD r []).length) (fun k=>((g.ch.getD i []).getD r []).length-k) 0 (by ((try simp only [xk]);(repeat (refine leK_cons ?_ ?_;first | (exact amE) | rotate_left));(refine leK_nil ?_;exact (by rfl));(all_goals (try (simp only [xr,simprocAttr];try refine int_eq1 ?_))))) (Nat.zero_le _) fun k hk => ?_
      have hmk:=(miN_le num den ((g.ch.getD i []).getD r []) o3 k)
      simp only [xr,simprocAttr]
      refine amGo ?_
      refine awp_cond amQ (fun h3 => ?_) (fun h3 => ?_)
      · have h3:=of_decide_eq_true h3
        have hk':k<((g.ch.getD i []).getD r []).length:=by omega
        obtain ⟨t1,t2⟩:=hB.to_ hi' hr' hk'
        obtain ⟨b1,b2⟩:=hB.bd i r k hi' hr' hk'
        have u1:0≤o3.getD ((((g.ch.getD i []).getD r []).getD k []).getD 1 0).toNat 0:=ho3.ge _ t1
        have u2:o3.getD ((((g.ch.getD i []).getD r []).getD k []).getD 1 0).toNat 0≤L.getD ((((g.ch.getD i []).getD r []).getD k []).getD 1 0).toNat 0:=ho3.le _ t1
        have u3:L.getD ((((g.ch.getD i []).getD r []).getD k []).getD 1 0).toNat 0≤60*119000000:=(hLb _ t1).2
        obtain ⟨_,_,_,_,_,_,_,m1,m2,m3,m4⟩:=gain_bd (el_at hok hk') (num:=num) (den:=den) (by omega) (by omega) (by omega) (by omega)
        have hmk2 : -119000000≤miN num den ((g.ch.getD i []).getD r []) o3 k:=by
          rcases hmk.2.2 with e | ⟨j,hj,e⟩
          · omega
          · have hj':j<((g.ch.getD i []).getD r []).length:=by omega
            have:=(hB.bd i r j hi' hr' hj').1
            have:=ho3.ge _ (hB.to_ hi' hr' hj').1
            omega
        refine amGo ?_
        ((try refine Or.inl ?_);refine ⟨_,(gain_d (((g.ch.getD i []).getD r []).getD k []) (num,den) m1 (by simp only;omega) m3 (by simp only;omega)),.inl rfl,?_⟩;refine amC ?_)
        refine amGo ?_
        refine ⟨k+1,by omega,by omega,.inr ⟨6,Nat.le_of_ble_eq_true rfl,leT_of ?_ rfl rfl rfl⟩⟩
        ((try simp only [xk]);(repeat (refine leK_cons ?_ ?_;first | (exact amE) | rotate_left));(refine leK_nil ?_;exact (by rfl));(all_goals (try (simp only [xr,simprocAttr];try refine int_eq1 ?_))))
      · have h3:=of_decide_eq_false h3
        have hk':k=((g.ch.getD i []).getD r []).length:=by omega
        subst hk'
        refine amGo ?_
        refine awp_cond amQ (fun h4 => ?_) (fun h4 => ?_)
        · have h4:=of_decide_eq_true h4
          obtain ⟨o4,o5⟩:=outL_set ho3 hi' h4 hmL
          have hsum:sAI (fun u=>out.getD u 0) g.list.length<sAI (fun u=>(o3.set i (miN num den ((g.ch.getD i []).getD r []) o3 ((g.ch.getD i []).getD r []).length)).getD u 0) g.list.length:=by
            cases c3
            · rw [(hs4 rfl).1] at o5
              rw [(hs4 rfl).1]
              exact o5
            · exact Int.lt_trans (hs5 rfl) o5
          refine amGo ?_
          refine ⟨(r+1,o3.set i (miN num den ((g.ch.getD i []).getD r []) o3 ((g.ch.getD i []).getD r []).length),true),hr',o4,fun h=>(by cases h),fun _=>hsum,by show s.length-(r+1)<s.length-r;omega,.inl ?_⟩
          ((try simp only [xk]);(repeat (refine leK_cons ?_ ?_;first | (exact amE) | rotate_left));(refine leK_nil ?_;exact (by rfl));(all_goals (try (simp only [xr,simprocAttr];try refine int_eq1 ?_))))
        · have h4:=of_decide_eq_false h4
          have h4:¬ o3.getD i 0<miN num den ((g.ch.getD i []).getD r []) o3 ((g.ch.getD i []).getD r []).length:=h4
          refine amGo ?_
          refine ⟨(r+1,o3,c3),hr',ho3,fun h=>⟨(hs4 h).1,(hs4 h).2.1,fun r2 hr2 => ?_⟩,hs5,by show s.length-(r+1)<s.length-r;omega,.inl ?_⟩
          · have hr2:r2<r+1:=hr2
            by_cases e:r2=r
            · subst e
              rw [(hs4 h).1] at h4
              omega
            · exact (hs4 h).2.2 r2 (by omega)
          · ((try simp only [xk]);(repeat (refine leK_cons ?_ ?_;first | (exact amE) | rotate_left));(refine leK_nil ?_;exact (by rfl));(all_goals (try (simp only [xr,simprocAttr];try refine int_eq1 ?_))))
    · have h2:=of_decide_eq_false h2
      have hr':r=s.length:=by omega
      subst hr'
      refine amGo ?_
      refine ⟨(i+1,o3,c3),hi',ho3,fun h=>⟨(hs4 h).1,fun i2 r2 hi2 hr2 => ?_⟩,hs5,by show g.list.length-(i+1)<g.list.length-i;omega,.inl ?_⟩
      · have hi2:i2<i+1:=hi2
        by_cases e:i2=i
        · subst e
          exact (hs4 h).2.2 r2 hr2
        · exact (hs4 h).2.1 i2 r2 (by omega) hr2
      · ((try simp only [xk]);(repeat (refine leK_cons ?_ ?_;first | (exact amE) | rotate_left));(refine leK_nil ?_;exact (by rfl));(all_goals (try (simp only [xr,simprocAttr];try refine int_eq1 ?_))))
  · have h1:=of_decide_eq_false h1
    have hi':i=g.list.length:=by omega
    have q1:=outL_sum ho2
    have q2:=outL_sum ho
    refine amGo ?_
    refine ⟨(o2,c),ho2,fun h i2 r2 hi2 hr2 => ?_,?_,.inl ?_⟩
    · have e:=(hs2 h).1
      subst e
      exact (hs2 h).2 i2 r2 (by omega) hr2
    · cases c
      · rw [(hs2 rfl).1]
        simp only [cond_false,cond_true]
        omega
      · have:=hs3 rfl
        simp only [cond_true]
        omega
    · ((try simp only [xk]);(repeat (refine leK_cons ?_ ?_;first | (exact amE) | rotate_left));(refine leK_nil ?_;exact (by rfl));(all_goals (try (simp only [xr,simprocAttr];try refine int_eq1 ?_))))
end Go.Proofs.Ytkcelmnbfbehbaa
/- The least credit of a problem's game: the program's FindCredit on the machine. Conditions: none. -/
set_option linter.all false
set_option linter.unusedSimpArgs false
set_option linter.unusedVariables false
namespace Go.Proofs.Ytkcelmnbfbehbaa
open Go Go.RowKit Am

/-- there is a credit -/
def CrE (m s:List (List Int)) (x:Int) (a:Int×Int):Prop:=∃ C,CrP (gmQ m s x).1.list.length (rqR s) (gmE (gmQ m s x).1 a.1 a.2) C
open Classical in
noncomputable def crE (m s:List (List Int)) (x:Int) (a:Int×Int):Bool:=decide (CrE m s x a)
/-- all is right, and there is a credit -/
noncomputable def fcB (m s:List (List Int)) (x:Int) (a:Int×Int):Bool:=(okB m s x a && !(decide (1000<a.1) || decide (100<a.2))) && crE m s x a
open Classical in
/-- the least credit -/
noncomputable def fcW (m s:List (List Int)) (x:Int) (a:Int×Int):List Int:=if h:∃ L,LcL s (gmQ m s x).1 a.1 a.2 L then Classical.choose h else []
theorem crE_iff {m s:List (List Int)} {x:Int} {a:Int×Int}:crE m s x a=true↔CrE m s x a:=by unfold crE;exact @decide_eq_true_iff _ (Classical.propDecidable _)
structure FcOK (m s:List (List Int)) (x:Int) (a:Int×Int):Prop where
  q:(gmQ m s x).2=false
  r:ratioB a=true
  full:GmFull m s (gmQ m s x).1
  n:0≤a.1∧a.1≤1000
  d:1≤a.2∧a.2≤100
theorem fc_ok {m s:List (List Int)} {x:Int} {a:Int×Int} (h1:(gmQ m s x).2=false) (h2:ratioB a=true) (h3:¬ 1000<a.1) (h4:¬ 100<a.2):FcOK m s x a:=by
  have h5:=ratio_ok h2
  exact ⟨h1,h2,gmQ_full h1,by omega,by omega⟩
theorem FcOK.eq {m s:List (List Int)} {x:Int} {a:Int×Int} (h:FcOK m s x a):fcB m s x a=crE m s x a:=by
  have h1:=h.n
  have h2:=h.d
  unfold fcB okB
  rw [h.q,h.r,decide_eq_false (show ¬ 1000<a.1 by omega),decide_eq_false (show ¬ 100<a.2 by omega)]
  rfl
theorem fcB_ok {m s:List (List Int)} {x:Int} {a:Int×Int} (h:fcB m s x a=true):FcOK m s x a∧CrE m s x a:=by
  unfold fcB at h
  rw [Bool.and_eq_true,Bool.and_eq_true,Bool.not_eq_true',Bool.or_eq_false_iff] at h
  obtain ⟨⟨h1,h2,h3⟩,h4⟩:=h
  obtain ⟨h5,h6⟩:=okB_ok h1
  exact ⟨fc_ok h5 h6 (of_decide_eq_false h2) (of_decide_eq_false h3),crE_iff.1 h4⟩
theorem fcW_L {m s:List (List Int)} {x:Int} {a:Int×Int} (h:fcB m s x a=true):LcL s (gmQ m s x).1 a.1 a.2 (fcW m s x a):=by
  obtain ⟨h1,h2⟩:=fcB_ok h
  have hn:=h1.n
  have hd:=h1.d
  have hex:=lcl_ex (gmB_of h1.full (num:=a.1) (den:=a.2) (by omega) (by omega)) h2
  unfold fcW
  rw [dif_pos hex]
  exact Classical.choose_spec hex
theorem fcW_len {m s:List (List Int)} {x:Int} {a:Int×Int} (h:fcB m s x a=true):(fcW m s x a).length≤60:=by
  rw [(fcW_L h).len]
  exact (fcB_ok h).1.full.le
theorem impl_FindCredit_h (m s:List (List Int)) (x:Int) (a:Int×Int) (hb:fcB m s x a=true):DoesH Try.prog 9 [prA m s,.int x,frA a] [] [] (.tup [.one (.own 0),.one (.b (.val (.bool true)))]) [.row 3 (.ints (fcW m s x a))]:=by
  obtain ⟨hk,hc⟩:=fcB_ok hb
  have hn:=hk.n
  have hd:=hk.d
  have hR:=isRatio_d a
  rw [hk.r] at hR
  have e1:decide (1000<a.1)=false:=decide_eq_false (by omega)
  have e2:decide (100<a.2)=false:=decide_eq_false (by omega)
  refine spec_hB Try.func9 rfl Try.ntmps9 cfOK (fun _ _=>by kernel_rfl) rfl rfl rfl ?_
  intro M0 w0 S φ0
  rw [Try.results9]
  refine amGo ?_
  (refine .inr (.inl (callW_a [] (gameOf_g hk.q) rfl rfl rfl rfl trivial rfl rfl rfl rfl ?_));refine amC ?_)
  refine amGo ?_
  ((try refine Or.inl ?_);refine ⟨_,(hR),.inl rfl,?_⟩;refine amC ?_)
  refine amGo ?_
  refine awp_cond amQ (fun hq => ?_) (fun hq => ?_)
  · rw [e1,e2] at hq
    cases hq
  refine amGo ?_
  (refine .inr (.inl (callW_b (credit_y hk.full (num:=a.1) (den:=a.2) (by omega) (by omega) (fcW_L hb)) rfl rfl rfl rfl rfl rfl rfl ?_));refine amC ?_)
  refine amGo ?_
  (simp only [ends_normal,ends_ret];refine retH_2 (vs:=[_,_]) [5] rfl ⟨rfl,trivial⟩ rfl rfl rfl rfl ⟨rfl,rfl,trivial⟩ ?_;try rfl)
theorem impl_FindCredit_i (m s:List (List Int)) (x:Int) (a:Int×Int) (hb:fcB m s x a=true):Does Try.prog 9 [prA m s,.int x,frA a] (.imm (.tup [.one (.b (.sl (.ints (fcW m s x a)))),.one (.b (.val (.bool true)))])):=imm_of (impl_FindCredit_h m s x a hb)
theorem impl_FindCredit_0 (m s:List (List Int)) (x:Int) (a:Int×Int) (hb:fcB m s x a=false):Does Try.prog 9 [prA m s,.int x,frA a] (.imm (.tup [.one (.b (.val (.slice none 0 0))),.one (.b (.val (.bool false)))])):=by
  refine spec_imm Try.func9 rfl Try.ntmps9 cfOK (fun _ _=>by kernel_rfl) rfl (Nat.le_of_ble_eq_true rfl) ?_
  intro M0 w0
  rw [Try.results9]
  refine amGo ?_
  cases hg:(gmQ m s x).2
  · (refine .inr (.inl (callW_a [] (gameOf_g hg) rfl rfl rfl rfl trivial rfl rfl rfl rfl ?_));refine amC ?_)
    refine amGo ?_
    have hR:=isRatio_d a
    cases hr:ratioB a
    · rw [hr] at hR
      ((try refine Or.inl ?_);refine ⟨_,(hR),.inl rfl,?_⟩;refine amC ?_)
      refine amGo ?_
      refine awp_cond amQ (fun hq => ?_) (fun hq => ?_)
      · refine amGo ?_
        (simp only [xe,simprocAttr];refine ⟨[_,_],⟨rfl,rfl,trivial⟩,rfl,Imp.eq ?_⟩)
        rfl
      · cases hq
    · rw [hr] at hR
      ((try refine Or.inl ?_);refine ⟨_,(hR),.inl rfl,?_⟩;refine amC ?_)
      refine amGo ?_
      refine awp_cond amQ (fun hq => ?_) (fun hq => ?_)
      · refine amGo ?_
        (simp only [xe,simprocAttr];refine ⟨[_,_],⟨rfl,rfl,trivial⟩,rfl,Imp.eq ?_⟩)
        rfl
      · have h1:¬ 1000<a.1:=fun h=>by
          rw [decide_eq_true h] at hq
          cases hq
        have h2:¬ 100<a.2:=fun h=>by
          rw [decide_eq_true h,decide_eq_false h1] at hq
          cases hq
        have hk:=fc_ok hg hr h1 h2
        have hn:=hk.n
        have hd:=hk.d
        rw [hk.eq] at hb
        have hno:¬ CrE m s x a:=fun h=>by rw [crE_iff.2 h] at hb;cases hb
        refine amGo ?_
        ((try refine Or.inl ?_);refine ⟨_,(credit_n hk.full (num:=a.1) (den:=a.2) (by omega) (by omega) hno),.inl rfl,?_⟩;refine amC ?_)
        refine amGo ?_
        (simp only [xe,simprocAttr];refine ⟨[_,_],⟨rfl,rfl,trivial⟩,rfl,Imp.eq ?_⟩)
        rfl
  · (refine .inr (.inl (callW_b (gameOf_b hg) rfl rfl rfl rfl rfl rfl rfl ?_));refine amC ?_)
    refine amGo ?_
    refine .inl ⟨.bool false,.inl rfl,?_⟩
    simp only [xr,simprocAttr]
    refine amS ?_
    refine amGo ?_
    refine awp_cond amQ (fun hc => ?_) (fun hc => ?_)
    · refine amGo ?_
      (simp only [xe,simprocAttr];refine ⟨[_,_],⟨rfl,rfl,trivial⟩,rfl,Imp.eq ?_⟩)
      rfl
    · cases hc
end Go.Proofs.Ytkcelmnbfbehbaa
