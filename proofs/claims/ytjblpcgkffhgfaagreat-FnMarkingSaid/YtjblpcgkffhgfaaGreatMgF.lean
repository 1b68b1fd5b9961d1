/- Probabilities in parts of 720 as fractions, on the machine. Conditions: small numbers. -/
import Derived.Test.YtjblpcgkffhgfaaGreatGFM
import Derived.Test.YtjblpcgkffhgfaaGreatBsf
import Derived.Test.YtjblpcgkffhgfaaGreatInsH
set_option linter.all false
set_option linter.unusedSimpArgs false
set_option linter.unusedVariables false
namespace Go.Proofs.YtjblpcgkffhgfaaGreat
open Go Go.RowKit Am

def fr7 (N:Nat):Int×Int:=mkFr (N:Int) 720
theorem fr7_is {N:Nat} (h:N≤100000):IsFr (fr7 N) (N:Int) 720:=isFr_small (by decide) (by decide) (by omega) (by omega)
theorem fr7_ok {N:Nat} (h:N≤100000):mkOk (N:Int) 720=true:=ok_small (by decide) (by decide) (by omega) (by omega)
theorem fr7_zero:fr7 0=(0,1):=by decide
theorem fr7_one:fr7 720=(1,1):=by decide
def frM (N:Nat):List Int:=[(fr7 N).1,(fr7 N).2]
theorem addF_d (A B:Nat) (hA:A≤50000) (hB:B≤50000):Does Tryz.prog 71 [frA (fr7 A),frA (fr7 B)] (.imm (.tup [frT (fr7 (A+B)),blT true])):=by
  have h:=addFracs_f (fr7_is (N:=A) (by omega)) (fr7_is (N:=B) (by omega))
  rw [← Int.natCast_add,fr7_ok (by omega)] at h
  exact h
theorem l2addF_d (A B:Nat) (hA:A≤50000) (hB:B≤50000):Does Tryz.prog 73 [frA (fr7 A),frA (fr7 B)] (.imm (.tup [frT (fr7 (A+B)),blT true])):=by
  have h:=l2Add_f (fr7_is (N:=A) (by omega)) (fr7_is (N:=B) (by omega))
  rw [← Int.natCast_add,fr7_ok (by omega)] at h
  exact h
theorem div7 {N m:Nat} (hN:N≤50000) (hm0:0<m) (hm:m≤6) (hd:m ∣ N):mkOk ((fr7 N).1*1) ((fr7 N).2*(m:Int))=true∧mkFr ((fr7 N).1*1) ((fr7 N).2*(m:Int))=fr7 (N / m):=by
  have h:=fr7_is (N:=N) (by omega)
  have hp:=h.dpos
  obtain ⟨q,rfl⟩:=hd
  have hq:m*q / m=q:=Nat.mul_div_cancel_left q hm0
  have e:=fr_cross (n:=(fr7 (m*q)).1*1) (d:=(fr7 (m*q)).2*(m:Int)) (n':=(q:Int)) (d':=720) (Int.mul_pos hp (by omega)) (by decide) (by
    have h1:=h.eq
    rw [Int.natCast_mul] at h1
    rw [Int.mul_one,h1,Int.mul_comm (m:Int) (q:Int),Int.mul_assoc,Int.mul_comm (m:Int)])
  have hq2:q≤50000:=Nat.le_trans (Nat.le_mul_of_pos_left q hm0) hN
  rw [hq]
  exact ⟨e.1.trans (fr7_ok (by omega)),e.2⟩
theorem one_is {m:Nat} (hm:m≤6):IsFr ((m:Int),1) (m:Int) 1:=isFr_int (by omega) (by omega)
theorem divF_d (N m:Nat) (hN:N≤50000) (hm0:0<m) (hm:m≤6) (hd:m ∣ N):Does Tryz.prog 151 [frA (fr7 N),frA ((m:Int),1)] (.imm (.tup [frT (fr7 (N / m)),blT true])):=by
  obtain ⟨e1,e2⟩:=div7 hN hm0 hm hd
  have h1:=fr7_is (N:=N) (by omega)
  obtain ⟨-,-,h3⟩:=opB h1 (one_is hm)
  have hb:=h1.bd
  have h4:=mul_bd (x:=(fr7 N).2) (y:=(m:Int)) (X:=100000) (Y:=6) ⟨by omega,by omega⟩ ⟨by omega,by omega⟩
  have h5:1≤(fr7 N).2*(m:Int):=Int.mul_pos (by omega) (by omega)
  refine spec_imm Tryz.func151 rfl Tryz.ntmps151 cfOK (fun _ _=>by kernel_rfl) rfl (Nat.le_of_ble_eq_true rfl) ?_
  intro M0 w0
  rw [Tryz.results151]
  refine amGo ?_
  ((try refine Or.inl ?_);refine ⟨_,(areFracs_f (fr7 N) ((m:Int),1) h1.ok (one_is hm).ok),.inl rfl,?_⟩;refine amC ?_)
  refine amGo ?_
  refine awp_cond amQ (fun hc => ?_) (fun hc => ?_)
  · have:decide ((m:Int)=0)=false:=decide_eq_false (by omega)
    rw [this] at hc
    cases hc
  refine amGo ?_
  refine awp_cond amQ (fun hd => ?_) (fun hd => ?_)
  · have:=of_decide_eq_true hd
    omega
  refine amGo ?_
  ((try refine Or.inl ?_);refine ⟨_,(makeFrac_d ((fr7 N).1*1) ((fr7 N).2*(m:Int)) (by omega) (by omega) (by omega) (by omega)),amF,?_⟩;refine amC ?_)
  rw [e1,e2]
  refine amGo ?_
  (simp only [xec,simprocAttr];refine ⟨[_,_],⟨⟨amK,rfl⟩,rfl,trivial⟩,rfl,Imp.eq ?_⟩)
  rfl
theorem l2divF_d (N m:Nat) (hN:N≤50000) (hm0:0<m) (hm:m≤6) (hd:m ∣ N):Does Tryz.prog 155 [frA (fr7 N),frA ((m:Int),1)] (.imm (.tup [frT (fr7 (N / m)),blT true])):=by
  obtain ⟨e1,e2⟩:=div7 hN hm0 hm hd
  have h1:=fr7_is (N:=N) (by omega)
  have hb:=h1.bd
  have h4:=mul_bd (x:=(fr7 N).2) (y:=(m:Int)) (X:=100000) (Y:=6) ⟨by omega,by omega⟩ ⟨by omega,by omega⟩
  have h5:1≤(fr7 N).2*(m:Int):=Int.mul_pos (by omega) (by omega)
  refine spec_imm Tryz.func155 rfl Tryz.ntmps155 cfOK (fun _ _=>by kernel_rfl) rfl (Nat.le_of_ble_eq_true rfl) ?_
  intro M0 w0
  rw [Tryz.results155]
  refine amGo ?_
  refine awp_cond amQ (fun hc => ?_) (fun hc => ?_)
  · have:=of_decide_eq_true hc
    omega
  refine amGo ?_
  refine awp_cond amQ (fun hd => ?_) (fun hd => ?_)
  · have:=of_decide_eq_true hd
    omega
  refine amGo ?_
  ((try refine Or.inl ?_);refine ⟨_,(l2Make_d ((fr7 N).1*1) ((fr7 N).2*(m:Int)) (by omega) (by omega) (by omega) (by omega)),amF,?_⟩;refine amC ?_)
  rw [e1,e2]
  refine amGo ?_
  (simp only [xec,simprocAttr];refine ⟨[_,_],⟨⟨amK,rfl⟩,rfl,trivial⟩,rfl,Imp.eq ?_⟩)
  rfl
/-! ### what is held -/
def kH (h:HL):List (List Int):=h.map (·.1)
def oH (h:HL):List (List Int):=h.map fun p=>frM p.2
theorem kH_len (h:HL):(kH h).length=h.length:=by simp [kH]
theorem oH_len (h:HL):(oH h).length=h.length:=by simp [oH]
theorem kH_at {h:HL} {i:Nat} (hi:i<h.length):(kH h).getD i []=(h.getD i ([],0)).1:=by
  rw [getD_inL (by rw [kH_len];exact hi),getD_inL hi]
  simp [kH]
theorem oH_at {h:HL} {i:Nat} (hi:i<h.length):(oH h).getD i []=frM (h.getD i ([],0)).2:=by
  rw [getD_inL (by rw [oH_len];exact hi),getD_inL hi]
  simp [oH]
theorem kH_in {h:HL} {x:List Int} {n:Nat} (hx:isAt h x):kH (gainH h x n)=kH h:=by
  rw [gainH_in hx]
  have hl:=hx.1
  unfold kH
  rw [List.map_append,List.map_cons]
  have e:(h.map (·.1))=(h.take (atH h x)).map (·.1)++x::(h.drop (atH h x+1)).map (·.1):=by
    have h1:h=h.take (atH h x)++h[atH h x]::h.drop (atH h x+1):=by rw [List.getElem_cons_drop,List.take_append_drop]
    have h2:(h[atH h x]).1=x:=by have:=hx.2;rwa [getD_inL hl] at this
    conv=>lhs;rw [h1]
    rw [List.map_append,List.map_cons,h2]
  rw [e]
theorem oH_in {h:HL} {x:List Int} {n:Nat} (hx:isAt h x):oH (gainH h x n)=(oH h).set (atH h x) (frM ((h.getD (atH h x) ([],0)).2+n)):=by
  rw [gainH_in hx]
  have hl:=hx.1
  unfold oH
  rw [List.set_eq_take_append_cons_drop,if_pos (by rw [List.length_map];exact hl),List.map_append,List.map_cons,List.map_take,List.map_drop]
theorem kH_new {h:HL} {x:List Int} {n:Nat} (hx:¬ isAt h x):kH (gainH h x n)=(kH h).take (atH h x)++[x]++(kH h).drop (atH h x):=by
  rw [gainH_new hx]
  simp [kH,List.map_take,List.map_drop]
theorem oH_new {h:HL} {x:List Int} {n:Nat} (hx:¬ isAt h x):oH (gainH h x n)=(oH h).take (atH h x)++[frM n]++(oH h).drop (atH h x):=by
  rw [gainH_new hx]
  simp [oH,List.map_take,List.map_drop]
theorem add1_d (a b:List Int):Does Tryz.prog 172 [.sl (.ints a),.sl (.ints b)] (.imm (.int (cmpL a b))):=by
  refine spec_imm Tryz.func172 rfl Tryz.ntmps172 cfOK (fun _ _=>by kernel_rfl) rfl (Nat.le_of_ble_eq_true rfl) ?_
  intro M0 w0
  rw [Tryz.results172]
  refine amGo ?_
  ((try refine Or.inl ?_);refine ⟨_,(compare_d a b),.inl rfl,?_⟩;refine amC ?_)
  refine amGo ?_
  (simp only [xe,simprocAttr];refine ⟨_,rfl,rfl,Imp.eq ?_⟩)
  rfl
theorem bsearch_d (h:HL) (x:List Int) (ho:h.Pairwise fun p q=>lexB p.1 q.1=true) (hl:h.length≤1000):Does Tryz.prog 171 [.sl (.ii (kH h)),.sl (.ints x),.clo 172 []] (.imm (.tup [.one (.b (.val (.int .i64 (atH h x)))),.one (.b (.val (.bool (decide (isAt h x)))))])):=by
  have hent:Enters Tryz.prog 172:=(add1_d [] []).1
  refine does_imm (v := .tuple #[.int .i64 (atH h x),.bool (decide (isAt h x))]) (fun _ _=>by kernel_rfl) (fun M => ?_) fun M w us hm ha => ?_
  · refine ⟨[.int .i64 (atH h x),.bool (decide (isAt h x))],rfl,rfl,fun j hj hj' => ?_⟩
    match j with
    | 0=>exact rfl
    | 1=>exact rfl
    | j+2=>exact absurd hj (by simp)
  · obtain ⟨u,us',rfl,k1,k2⟩:=args_inv ha
    obtain ⟨v,us'',rfl,k3,k4⟩:=args_inv k2
    obtain ⟨c,us3,rfl,k5,k6⟩:=args_inv k4
    obtain rfl:=args_inv0 k6
    obtain ⟨lb,rfl,hlb⟩:=k5
    obtain rfl:lb=[]:=List.length_eq_zero_iff.1 hlb.1
    have k1:SII M u (kH h):=k1
    have k3:SI M v x:=k3
    have hkl:=kH_len h
    have key:=bsearch_any w u v (kH h) x 172 hent (sl_of_sii hm k1) (by omega) (fun W hb j hj v' hv' => ?_) fun a b hab ha' hb' hlt => ?_
    · have e1:atK (kH h) x=atH h x:=atK_keys h x
      rw [e1] at key
      have e2:decide (atH h x<(kH h).length∧(kH h).getD (atH h x) []=x)=decide (isAt h x):=by
        refine decide_eq_decide.2 ?_
        unfold isAt
        rw [hkl]
        exact ⟨fun ⟨h1,h2⟩=>⟨h1,by rw [kH_at h1] at h2;exact h2⟩,fun ⟨h1,h2⟩=>⟨h1,by rw [kH_at h1];exact h2⟩⟩
      rw [e2] at key
      exact key
    · have ha2:ArgsRel W.cell? [.sl (.ints (kH h)[j]),.sl (.ints x)] [v',v]:=args_cons (si_of_sl (hv'.below hb)) (args_cons (si_of_sl ((sl_of_si hm k3).below hb)) args_nil)
      exact calls_val (add1_d (kH h)[j] x) ha2
    · rcases Nat.lt_or_ge a b with h1 | h1
      · have h2:=List.pairwise_iff_getElem.1 ho a b (by omega) (by omega) h1
        have e1:(kH h)[a]=(h[a]'(by omega)).1:=by simp [kH]
        have e2:(kH h)[b]=(h[b]'(by omega)).1:=by simp [kH]
        rw [e2] at hlt
        rw [e1]
        exact lexB_trans h2 hlt
      · obtain rfl:a=b:=by omega
        exact hlt
end Go.Proofs.YtjblpcgkffhgfaaGreat
