/- The marks with the greatest bound, on the machine: the reference's. Conditions: a cache and a sequence that are right. -/
import Derived.Test.YtjblpcgkffhgfaaGreatGUF
import Derived.Test.YtjblpcgkffhgfaaGreatPhase
import Derived.Test.YtjblpcgkffhgfaaGreatAmC
import Derived.Test.YtjblpcgkffhgfaaGreatKitG
set_option linter.all false
set_option linter.unusedSimpArgs false
set_option linter.unusedVariables false
namespace Go.Proofs.YtjblpcgkffhgfaaGreat
open Go Go.RowKit Am

theorem pow2_int (x:Nat):(2:Int) ^ x=((2 ^ x:Nat):Int):=by simp
theorem in_bit (s x:Nat):decide ((((((s:Int) / 2 ^ x).toNat &&& 1:Nat)):Int)=1)=s.testBit x:=by
  rw [pow2_int,← Int.natCast_ediv,Int.toNat_natCast,Nat.and_one_is_mod,Nat.testBit_eq_decide_div_mod_eq]
  by_cases h:s / 2 ^ x % 2=1
  · rw [h];rfl
  · rw [decide_eq_false h,decide_eq_false (by omega)]
theorem pow_le8 {x:Nat} (h:x≤8):1≤2 ^ x∧2 ^ x≤256:=by
  have h1:=Nat.pow_le_pow_right (n:=2) (by decide) h
  have h2:=Nat.two_pow_pos x
  omega
theorem l5In_d (s x:Nat) (hs:s<256) (hx:x≤62):Does Tryz.prog 85 [.int s,.int x] (.imm (.bool (s.testBit x))):=by
  have hd:0≤(s:Int) / 2 ^ x∧(s:Int) / 2 ^ x≤256:=by
    rw [pow2_int,← Int.natCast_ediv]
    have:=Nat.div_le_self s (2 ^ x)
    exact ⟨Int.natCast_nonneg _,by omega⟩
  refine spec_imm Tryz.func85 rfl Tryz.ntmps85 cfOK (fun _ _=>by kernel_rfl) rfl (Nat.le_of_ble_eq_true rfl) ?_
  intro M0 w0
  rw [Tryz.results85]
  refine amGo ?_
  (simp only [xe,simprocAttr];refine ⟨_,rfl,rfl,Imp.eq ?_⟩)
  show AV.bool _=AV.bool _
  congr 1
  exact in_bit s x
theorem l5Begin_d (s x:Nat) (hs:s<256) (hx:x≤8):Does Tryz.prog 98 [.int s,.int x] (.imm (.int (begS s x:Nat))):=by
  have hp:=pow_le8 hx
  have hp2:=pow2_int x
  refine spec_imm Tryz.func98 rfl Tryz.ntmps98 cfOK (fun _ _=>by kernel_rfl) rfl (Nat.le_of_ble_eq_true rfl) ?_
  intro M0 w0
  rw [Tryz.results98]
  refine amGo ?_
  ((try refine Or.inl ?_);refine ⟨_,(l5In_d s x hs (by omega)),.inl rfl,?_⟩;refine amC ?_)
  refine amGo ?_
  refine awp_cond amQ (fun hc => ?_) (fun hc => ?_)
  · have hge:2 ^ x≤s:=Nat.ge_two_pow_of_testBit hc
    have e:begS s x=s-2 ^ x:=if_pos hc
    refine amGo ?_
    (simp only [xe,simprocAttr];refine ⟨_,rfl,rfl,Imp.eq ?_⟩)
    rw [e]
    show AV.int _=AV.int _
    congr 1
    simp only [pow2_int]
    omega
  · have e:begS s x=s:=if_neg (by rw [hc];decide)
    refine amGo ?_
    (simp only [xe,simprocAttr];refine ⟨_,rfl,rfl,Imp.eq ?_⟩)
    rw [e]
set_option maxHeartbeats 2000000 in
theorem l5Mark_d (k:Int) (n:Nat) (xs:List Int) (i m:Nat) (hk0:0≤k) (hk6:k≤6) (hn8:n≤8) (hn:xs.length≤60) (hi:i<xs.length) (hm:m<2 ^ n):Does Tryz.prog 99 [.int k,.int n,.sl (.ints xs),.int i,.int m] (.imm (.tup [.one (.b (.val (.int .i64 (mkT k xs i m n).1))),.one (.b (.val (.int .i64 (mkT k xs i m n).2)))])):=by
  have hb:=gn0_bd hk0 hk6 hn i
  have htl:(xs.take (i+1)).length≤60:=by rw [List.length_take];omega
  have hr:=rs_short (k:=i+1) hn
  have hpn:=pow_le8 hn8
  refine spec_imm Tryz.func99 rfl Tryz.ntmps99 cfOK (fun _ _=>by kernel_rfl) rfl (Nat.le_of_ble_eq_true rfl) ?_
  intro M0 w0
  rw [Tryz.results99]
  refine amGo ?_
  rw [show ((i:Int)+1).toNat=i+1 by omega]
  ((try refine Or.inl ?_);refine ⟨_,(l3Different_d (xs.take (i+1)) (by omega)),amF,?_⟩;refine amC ?_)
  refine amGo ?_
  rw [show (((rs (xs.take (i+1))).length:Int)-k)=gn0 k xs i from rfl]
  refine awp_rounds (α:=Nat) (fun t=>[(13,true,.int t),(12,true,.int (mkT k xs i m t).1),(4,true,.int (mkT k xs i m t).2)]) [1,2,3] (fun _=>[]) (fun t=>t≤n) (fun t=>n-t) 0 (by ((try simp only [xk]);(repeat (refine leK_cons ?_ ?_;first | (exact amE) | rotate_left));(try exact leK_nil rfl);(all_goals (try (simp only [xr,simprocAttr];try refine int_eq1 ?_))))) (Nat.zero_le _) fun t ht => ?_
  simp only [xr,simprocAttr]
  refine amGo ?_
  refine awp_cond amQ (fun hc => ?_) (fun hc => ?_)
  · have hc:=of_decide_eq_true hc
    have ht':t<n:=by omega
    have hml:=mkT_lt (k:=k) (xs:=xs) (i:=i) hm (t:=t) (by omega)
    have hpt:=pow_le8 (x:=t) (by omega)
    have hpt2:=pow2_int t
    have hsum:(mkT k xs i m t).1=gn0 k xs i-sumN (hitX xs i m) t:=mkT_gain k xs i m t
    have hsb:=sumN_bd (f:=hitX xs i m) (lo:=0) (hi:=1) (n:=t) fun x _=>by unfold hitX;split<;>omega
    have hud:=use_drop (p:=(t:Int)) hi
    have hul:=use_le (t:Int) hi
    refine amGo ?_
    ((try refine Or.inl ?_);refine ⟨_,(fun _=>l1Has_d ((xs.take i).drop 0) t),.inl rfl,?_⟩;refine amC ?_)
    rw [List.drop_zero]
    refine amGo ?_
    refine awp_cond amQ (fun hd => ?_) (fun hd => ?_)
    · have hd2:(t:Int)=xs.getD i 0∨(t:Int) ∉ xs.take i:=by simpa using hd
      have e:mkT k xs i m (t+1)=mkT k xs i m t:=if_pos hd2
      refine amGo ?_
      refine ⟨t+1,by omega,by omega,.inl ?_⟩
      rw [e]
      ((try simp only [xk]);(repeat (refine leK_cons ?_ ?_;first | (exact amE) | rotate_left));(try exact leK_nil rfl);(all_goals (try (simp only [xr,simprocAttr];try refine int_eq1 ?_))))
    · have hd2:¬ ((t:Int)=xs.getD i 0∨(t:Int) ∉ xs.take i):=by simpa using hd
      refine amGo ?_
      ((try refine Or.inl ?_);refine ⟨_,(l5Use_d xs i (t:Int) hi),.inl rfl,?_⟩;refine amC ?_)
      refine amGo ?_
      ((try refine Or.inl ?_);refine ⟨_,(fun _=>l5In_d (mkT k xs i m t).2 t (by omega) (by omega)),.inl rfl,?_⟩;refine amC ?_)
      refine amGo ?_
      refine awp_cond amQ (fun he => ?_) (fun he => ?_)
      · have he2:(t:Int) ∉ xs.drop (i+1)∨(mkT k xs i m t).2.testBit t=true:=by
          rw [hud]
          by_cases h1:useP xs i (t:Int)=xs.length
          · exact .inl (by omega)
          · refine .inr ?_
            rw [decide_eq_false (show ¬ ((useP xs i (t:Int):Nat):Int)=xs.length by omega)] at he
            simpa using he
        have e:mkT k xs i m (t+1)=((mkT k xs i m t).1-1,(mkT k xs i m t).2):=(if_neg hd2).trans (if_pos he2)
        refine amGo ?_
        refine ⟨t+1,by omega,by omega,.inl ?_⟩
        rw [e]
        ((try simp only [xk]);(repeat (refine leK_cons ?_ ?_;first | (exact amE) | rotate_left));(try exact leK_nil rfl);(all_goals (try (simp only [xr,simprocAttr];try refine int_eq1 ?_))))
      · have he2:¬ ((t:Int) ∉ xs.drop (i+1)∨(mkT k xs i m t).2.testBit t=true):=by
          rw [hud]
          by_cases h1:useP xs i (t:Int)=xs.length
          · rw [decide_eq_true (show ((useP xs i (t:Int):Nat):Int)=xs.length by omega)] at he
            simp at he
          · rw [decide_eq_false (show ¬ ((useP xs i (t:Int):Nat):Int)=xs.length by omega)] at he
            have h2:(mkT k xs i m t).2.testBit t=false:=by simpa using he
            rw [h2]
            intro h3
            rcases h3 with h3 | h3
            · omega
            · cases h3
        have e:mkT k xs i m (t+1)=((mkT k xs i m t).1,(mkT k xs i m t).2 ||| 2 ^ t):=(if_neg hd2).trans (if_neg he2)
        refine amGo ?_
        refine ⟨t+1,by omega,by omega,.inl ?_⟩
        rw [e]
        ((try simp only [xk]);(repeat (refine leK_cons ?_ ?_;first | (exact amE) | rotate_left));(try exact leK_nil rfl);(all_goals (try (simp only [xr,simprocAttr];try refine int_eq1 ?_))))
        all_goals (rw [Int.one_mul,hpt2,Int.toNat_natCast])
  · have hc:=of_decide_eq_false hc
    obtain rfl:t=n:=by omega
    refine amGo ?_
    (simp only [xe,simprocAttr];refine ⟨[_,_],⟨rfl,rfl,trivial⟩,rfl,Imp.eq ?_⟩)
    rfl
end Go.Proofs.YtjblpcgkffhgfaaGreat
/- The table of the marks with the greatest bound, on the machine: the reference's. Conditions: a cache and a sequence that are right. -/
set_option linter.all false
set_option linter.unusedSimpArgs false
set_option linter.unusedVariables false
namespace Go.Proofs.YtjblpcgkffhgfaaGreat
open Go Go.RowKit Am

/-- a row of the table, the first t sets of it -/
def gRow (k:Int) (n:Nat) (xs:List Int) (i t:Nat):List Int:=(List.range t).map (gS k n xs (xs.length-i))
theorem gRow_len (k:Int) (n:Nat) (xs:List Int) (i t:Nat):(gRow k n xs i t).length=t:=by simp [gRow]
theorem gRow_at {k:Int} {n:Nat} {xs:List Int} {i t s:Nat} (h:s<t):(gRow k n xs i t).getD s 0=gS k n xs (xs.length-i) s:=by
  unfold gRow
  rw [List.getD_eq_getElem?_getD,List.getElem?_map,List.getElem?_range h]
  rfl
theorem gRow_next (k:Int) (n:Nat) (xs:List Int) (i t:Nat):gRow k n xs i (t+1)=gRow k n xs i t++[gS k n xs (xs.length-i) t]:=by
  unfold gRow
  rw [List.range_succ,List.map_append]
  rfl
/-- the rows behind place i are there -/
def gTab (k:Int) (n:Nat) (xs:List Int) (i:Nat):List (List Int):=(List.range (xs.length+1)).map fun j=>if i<j then gRow k n xs j (2 ^ n) else []
def gAll (k:Int) (n:Nat) (xs:List Int):List (List Int):=(List.range (xs.length+1)).map fun j=>gRow k n xs j (2 ^ n)
theorem gTab_len (k:Int) (n:Nat) (xs:List Int) (i:Nat):(gTab k n xs i).length=xs.length+1:=by simp [gTab]
theorem gAll_len (k:Int) (n:Nat) (xs:List Int):(gAll k n xs).length=xs.length+1:=by simp [gAll]
theorem gTab_at {k:Int} {n:Nat} {xs:List Int} {i j:Nat} (h:j≤xs.length) (hij:i<j):(gTab k n xs i).getD j []=gRow k n xs j (2 ^ n):=by
  unfold gTab
  rw [List.getD_eq_getElem?_getD,List.getElem?_map,List.getElem?_range (by omega)]
  exact if_pos hij
theorem gTab_no {k:Int} {n:Nat} {xs:List Int} {i:Nat}:(gTab k n xs i).getD i []=[]:=by
  unfold gTab
  rw [List.getD_eq_getElem?_getD,List.getElem?_map]
  rcases Nat.lt_or_ge i (xs.length+1) with h | h
  · rw [List.getElem?_range h]
    exact if_neg (Nat.lt_irrefl _)
  · rw [List.getElem?_eq_none (by simp;omega)]
    rfl
theorem gAll_at {k:Int} {n:Nat} {xs:List Int} {j:Nat} (h:j≤xs.length):(gAll k n xs).getD j []=gRow k n xs j (2 ^ n):=by
  unfold gAll
  rw [List.getD_eq_getElem?_getD,List.getElem?_map,List.getElem?_range (by omega)]
  rfl
theorem gTab_end (k:Int) (n:Nat) (xs:List Int):gTab k n xs xs.length=List.replicate (xs.length+1) []:=by
  refine List.ext_getElem (by simp [gTab]) fun i h1 h2 => ?_
  simp only [gTab,List.length_map,List.length_range] at h1
  simp only [gTab,List.getElem_map,List.getElem_range,List.getElem_replicate]
  rw [if_neg (by omega)]
theorem gTab_set {k:Int} {n:Nat} {xs:List Int} {i:Nat}:(gTab k n xs (i+1)).set (i+1) (gRow k n xs (i+1) (2 ^ n))=gTab k n xs i:=by
  refine List.ext_getElem (by simp [gTab]) fun j h1 h2 => ?_
  rw [List.getElem_set]
  simp only [gTab,List.getElem_map,List.getElem_range]
  by_cases e:i+1=j
  · rw [if_pos e,if_pos (by omega),e]
  · rw [if_neg e]
    by_cases h3:i+1<j
    · rw [if_pos h3,if_pos (by omega)]
    · rw [if_neg h3,if_neg (by omega)]
theorem gTab_all {k:Int} {n:Nat} {xs:List Int}:(gTab k n xs 0).set 0 (gRow k n xs 0 (2 ^ n))=gAll k n xs:=by
  refine List.ext_getElem (by simp [gTab,gAll]) fun j h1 h2 => ?_
  rw [List.getElem_set]
  simp only [gTab,gAll,List.getElem_map,List.getElem_range]
  by_cases e:0=j
  · rw [if_pos e,e]
  · rw [if_neg e,if_pos (by omega)]
theorem gRow_zero (k:Int) (n:Nat) (xs:List Int) (t:Nat):gRow k n xs xs.length t=List.replicate t 0:=by
  refine List.ext_getElem (by simp [gRow]) fun j h1 h2 => ?_
  simp only [gRow,List.getElem_map,List.getElem_range,List.getElem_replicate,Nat.sub_self]
  rfl
theorem mkT_bd {k:Int} {xs:List Int} {i m:Nat} (h0:0≤k) (hk:k≤6) (hn:xs.length≤60) (t:Nat) (ht:t≤8) : -14≤(mkT k xs i m t).1∧(mkT k xs i m t).1≤60:=by
  have h1:=gn0_bd h0 hk hn i
  have h2:=sumN_bd (f:=hitX xs i m) (lo:=0) (hi:=1) (n:=t) fun x _=>by unfold hitX;split<;>omega
  rw [mkT_gain]
  omega
theorem gS_bd {k:Int} {n:Nat} {xs:List Int} (h0:0≤k) (hk:k≤6) (hn:xs.length≤60) (h8:n≤8):∀ d s,0≤gS k n xs d s∧gS k n xs d s≤60*d
  | 0,_=>⟨Int.le_refl _,Int.le_refl _⟩
  | d+1,s=>by
    have h1:=gS_bd h0 hk hn h8 d (begS s (xs.getD (xs.length-(d+1)) 0).toNat)
    have h2:=gS_bd h0 hk hn h8 d (mkT k xs (xs.length-(d+1)) (begS s (xs.getD (xs.length-(d+1)) 0).toNat) n).2
    have h3:=mkT_bd (i:=xs.length-(d+1)) (m:=begS s (xs.getD (xs.length-(d+1)) 0).toNat) h0 hk hn n h8
    unfold gS
    simp only
    omega
theorem gS_at {k:Int} {n:Nat} {xs:List Int} {i s:Nat} (hi:i<xs.length):gS k n xs (xs.length-i) s=max (gS k n xs (xs.length-(i+1)) (begS s (xs.getD i 0).toNat)) ((mkT k xs i (begS s (xs.getD i 0).toNat) n).1+gS k n xs (xs.length-(i+1)) (mkT k xs i (begS s (xs.getD i 0).toNat) n).2):=by
  obtain ⟨d,hd⟩:∃ d,xs.length-i=d+1:=⟨xs.length-i-1,by omega⟩
  have e:xs.length-(d+1)=i:=by omega
  rw [hd,show xs.length-(i+1)=d by omega]
  show max (gS k n xs d (begS s (xs.getD (xs.length-(d+1)) 0).toNat)) _=_
  rw [e]
set_option maxRecDepth 4000 in
set_option maxHeartbeats 4000000 in
theorem l5Gains_d (k:Int) (n:Nat) (xs:List Int) (hk0:0≤k) (hk6:k≤6) (hn1:1≤n) (hn8:n≤8) (hn:xs.length≤60) (hx:PgOK n xs):Does Tryz.prog 97 [.int k,.int n,.sl (.ints xs)] (.imm (.sl (.ii (gAll k n xs)))):=by
  have hpn:=pow_le8 hn8
  have hpn2:=pow2_int n
  refine spec_imm Tryz.func97 rfl Tryz.ntmps97 cfOK (fun _ _=>by kernel_rfl) rfl (Nat.le_of_ble_eq_true rfl) ?_
  intro M0 w0
  rw [Tryz.results97]
  refine amGoI ?_
  rw [show ((xs.length:Int)+1).toNat=xs.length+1 by omega,Int.one_mul,hpn2,Int.toNat_natCast]
  (refine awp_cut 0 (xs.length) (.ii (List.replicate (xs.length+1) [])) (.ints (List.replicate (2 ^ n) 0)) rfl (by first | (show _=List.length _;simp;done) | (show _=List.length _;omega) | exact amX) rfl ?_;simp only [xr,simprocAttr])
  rw [← gTab_end k n xs,← gRow_zero k n xs (2 ^ n)]
  (refine awp_frz 2 rfl ?_;simp only [xz,simprocAttr])
  refine awp_rounds (α:=Nat) (fun i=>[(8,true,.int ((i:Int)-1))]) [0,1,2,7] (fun i=>[.cut 24 3 (.ii (gTab k n xs i)) i (.b (.sl (.ints (gRow k n xs i (2 ^ n))))),.gone,.gone]) (fun i=>i≤xs.length) (fun i=>i) xs.length (by ((try simp only [xk]);(repeat (refine leK_cons ?_ ?_;first | (exact amE) | rotate_left));(refine leK_nil ?_;exact (by rfl));(all_goals (try (simp only [xr,simprocAttr];try refine int_eq1 ?_))))) (Nat.le_refl _) fun i hi => ?_
  have hgl:=gTab_len k n xs i
  simp only [xr,simprocAttr]
  rcases i with _ | i
  · refine amGo ?_
    refine awp_cond amQ (fun hc => ?_) (fun hc => ?_)
    · cases hc
    (refine awp_cutE 0 rfl amT rfl ?_;simp only [xr,simprocAttr])
    rw [gTab_all]
    refine amGoR ?_
    (refine awp_frz 0 rfl ?_;simp only [xz,simprocAttr])
    refine amGo ?_
    (simp only [xe,simprocAttr];refine ⟨_,rfl,rfl,Imp.eq ?_⟩)
    rfl
  · rw [show (((i+1:Nat):Int)-1)=(i:Int) by omega]
    have hi':i<xs.length:=by omega
    refine amGo ?_
    refine awp_cond amQ (fun hc => ?_) (fun hc => ?_)
    · (refine awp_cutN 0 (i) rfl amT rfl ?_;simp only [xr,simprocAttr])
      rw [gTab_set,gTab_no]
      have hpl:=hx.low i hi'
      have hph:=hx.high i hi'
      obtain ⟨p,hp⟩:∃ p:Nat,xs.getD i 0=(p:Int):=⟨(xs.getD i 0).toNat,by omega⟩
      have hgl2:=gTab_len k n xs i
      refine amGo ?_
      refine awp_rounds (α:=Nat) (fun s=>[(9,true,.int s)]) [0,1,2,7,8] (fun s=>[.cut 24 3 (.ii (gTab k n xs i)) i (.own 3),.gone,.gone,.row 3 (.ints (gRow k n xs i s))]) (fun s=>s≤2 ^ n) (fun s=>2 ^ n-s) 0 (by ((try simp only [xk]);(repeat (refine leK_cons ?_ ?_;first | (exact amE) | rotate_left));(refine leK_nil ?_;exact (by rfl));(all_goals (try (simp only [xr,simprocAttr];try refine int_eq1 ?_))))) (Nat.zero_le _) fun s hs => ?_
      have hrl:=gRow_len k n xs i s
      simp only [xr,simprocAttr]
      refine amGo ?_
      refine awp_cond amQ (fun hd => ?_) (fun hd => ?_)
      · have hd:=of_decide_eq_true hd
        have hs':s<2 ^ n:=by omega
        have hml:begS s p<2 ^ n:=begS_lt hs'
        have hwl:=mkT_lt (k:=k) (xs:=xs) (i:=i) hml (Nat.le_refl n)
        have hgb:=mkT_bd (k:=k) (xs:=xs) (i:=i) (m:=begS s p) hk0 hk6 hn n hn8
        have hb1:=gS_bd hk0 hk6 hn hn8 (xs.length-(i+1)) (mkT k xs i (begS s p) n).2
        have hT:(gTab k n xs i).getD (i+1) []=gRow k n xs (i+1) (2 ^ n):=gTab_at (by omega) (by omega)
        have hR1:(gRow k n xs (i+1) (2 ^ n)).getD (begS s p) 0=gS k n xs (xs.length-(i+1)) (begS s p):=gRow_at hml
        have hR2:(gRow k n xs (i+1) (2 ^ n)).getD (mkT k xs i (begS s p) n).2 0=gS k n xs (xs.length-(i+1)) (mkT k xs i (begS s p) n).2:=gRow_at hwl
        have hRl:=gRow_len k n xs (i+1) (2 ^ n)
        have hE:((i:Int)+1).toNat=i+1:=by omega
        have hB:Nat.beq (i+1) i=false:=by rw [Bool.eq_false_iff];exact fun h=>by have:=Nat.eq_of_beq_eq_true h;omega
        have hat:=gS_at (k:=k) (n:=n) (s:=s) hi'
        rw [hp,Int.toNat_natCast] at hat
        refine amGo ?_
        rw [hp]
        ((try refine Or.inl ?_);refine ⟨_,(l5Begin_d s p (by omega) (by omega)),.inl rfl,?_⟩;refine amC ?_)
        refine amGo ?_
        ((try refine Or.inl ?_);refine ⟨_,(l5Mark_d k n xs i (begS s p) hk0 hk6 hn8 hn hi' hml),.inl rfl,?_⟩;refine amC ?_)
        refine amGo ?_
        (refine amB ?_;refine awp_anyG 1 [(26,[4,3]),(28,[0])] [4,3] [(26,[]),(28,[])] ?_;simp (maxSteps:=3000000) only [xg,hE,hB,hT,hR1,hR2,hRl,xr,simprocAttr];refine amSG ?_)
        ((try refine Or.inl ?_);refine ⟨_,(l1Most_d (gS k n xs (xs.length-(i+1)) (begS s p)) ((mkT k xs i (begS s p) n).1+gS k n xs (xs.length-(i+1)) (mkT k xs i (begS s p) n).2)),amF,?_⟩;(try simp (maxSteps:=3000000) only [xg,hE,hB,hT,hR1,hR2,hRl,xr,simprocAttr]);refine amSG ?_)
        refine amB ?_
        (refine awp_mv 3 4 rfl rfl (by decide) rfl rfl ?_;simp only [xm,simprocAttr])
        refine amGo ?_
        refine ⟨s+1,by omega,by omega,.inr ⟨4,Nat.le_of_ble_eq_true rfl,leT_of ?_ rfl rfl rfl⟩⟩
        ((try simp only [xk]);(repeat (refine leK_cons ?_ ?_;first | (exact amE) | rotate_left));(refine leK_nil ?_;exact (by rw [gRow_next,hat];rfl));(all_goals (try (simp only [xr,simprocAttr];try refine int_eq1 ?_))))
      · have hd:=of_decide_eq_false hd
        obtain rfl:s=2 ^ n:=by omega
        refine amB ?_
        (refine awp_frz 3 rfl ?_;simp only [xz,simprocAttr])
        refine amGo ?_
        refine ⟨i,by omega,by omega,.inr ⟨3,Nat.le_of_ble_eq_true rfl,leT_of ?_ rfl rfl rfl⟩⟩
        ((try simp only [xk]);(repeat (refine leK_cons ?_ ?_;first | (exact amE) | rotate_left));(refine leK_nil ?_;exact (by rfl));(all_goals (try (simp only [xr,simprocAttr];try refine int_eq1 ?_))))
    · have hc:=of_decide_eq_false hc
      omega
end Go.Proofs.YtjblpcgkffhgfaaGreat
/- The marks with the greatest bound, on the machine: the reference's, and that both are alike. Conditions: none. -/
set_option linter.all false
set_option linter.unusedSimpArgs false
set_option linter.unusedVariables false
namespace Go.Proofs.YtjblpcgkffhgfaaGreat
open Go Go.RowKit Am

theorem outS_at {k:Int} {n:Nat} {xs:List Int} {i s:Nat} (hi:i<xs.length):outS k n xs (xs.length-i) s=if 0<gS k n xs (xs.length-i) s then (if (mkT k xs i (begS s (xs.getD i 0).toNat) n).1+gS k n xs (xs.length-(i+1)) (mkT k xs i (begS s (xs.getD i 0).toNat) n).2=gS k n xs (xs.length-i) s then (i:Int)::outS k n xs (xs.length-(i+1)) (mkT k xs i (begS s (xs.getD i 0).toNat) n).2 else outS k n xs (xs.length-(i+1)) (begS s (xs.getD i 0).toNat)) else []:=by
  obtain ⟨d,hd⟩:∃ d,xs.length-i=d+1:=⟨xs.length-i-1,by omega⟩
  have e:xs.length-(d+1)=i:=by omega
  rw [hd,show xs.length-(i+1)=d by omega]
  show (if 0<gS k n xs (d+1) s then (if (mkT k xs (xs.length-(d+1)) (begS s (xs.getD (xs.length-(d+1)) 0).toNat) n).1+gS k n xs d _=_ then ((xs.length-(d+1):Nat):Int)::_ else _) else [])=_
  rw [e]
theorem outS_len (k:Int) (n:Nat) (xs:List Int):∀ d s,(outS k n xs d s).length≤d
  | 0,_=>Nat.le_refl _
  | d+1,s=>by
    have h1:=outS_len k n xs d (begS s (xs.getD (xs.length-(d+1)) 0).toNat)
    have h2:=outS_len k n xs d (mkT k xs (xs.length-(d+1)) (begS s (xs.getD (xs.length-(d+1)) 0).toNat) n).2
    unfold outS
    simp only
    split
    · split
      · rw [List.length_cons]
        omega
      · omega
    · exact Nat.zero_le _
set_option maxHeartbeats 4000000 in
theorem l5Find_d (k:Int) (n:Nat) (xs:List Int) (hk0:0≤k) (hk6:k≤6) (hn1:1≤n) (hn8:n≤8) (hn:xs.length≤60) (hx:PgOK n xs):Does Tryz.prog 49 [.int k,.int n,.sl (.ints xs)] (.imm (.sl (.ints (outS k n xs xs.length 0)))):=by
  have hpn:=pow_le8 hn8
  have hol:=outS_len k n xs xs.length 0
  have hal:=gAll_len k n xs
  refine spec_imm Tryz.func49 rfl Tryz.ntmps49 cfOK (fun _ _=>by kernel_rfl) rfl (Nat.le_of_ble_eq_true rfl) ?_
  intro M0 w0
  rw [Tryz.results49]
  refine amGo ?_
  ((try refine Or.inl ?_);refine ⟨_,(l5Gains_d k n xs hk0 hk6 hn1 hn8 hn hx),amF,?_⟩;refine amC ?_)
  refine amGo ?_
  refine awp_rounds (α:=Nat×Nat×List Int) (fun x=>[(10,true,.int x.1),(9,true,.int x.2.1)]) [0,1,2,7,8] (fun x=>[.row 3 (.ints x.2.2)]) (fun x=>x.1≤xs.length∧x.2.1<2 ^ n∧x.2.2++outS k n xs (xs.length-x.1) x.2.1=outS k n xs xs.length 0) (fun x=>xs.length-x.1) (0,0,[]) (by ((try simp only [xk]);(repeat (refine leK_cons ?_ ?_;first | (exact amE) | rotate_left));(refine leK_nil ?_;exact (by rfl));(all_goals (try (simp only [xr,simprocAttr];try refine int_eq1 ?_))))) ⟨Nat.zero_le _,Nat.two_pow_pos _,rfl⟩ fun ⟨i,s,ms⟩ hx' => ?_
  obtain ⟨hi,hs,hms⟩:=hx'
  dsimp only at hi hs hms ⊢
  have hml:ms.length+(outS k n xs (xs.length-i) s).length=(outS k n xs xs.length 0).length:=by rw [← hms,List.length_append]
  have hT:(gAll k n xs).getD i []=gRow k n xs i (2 ^ n):=gAll_at hi
  have hTl:((gAll k n xs).getD i []).length=2 ^ n:=by rw [hT,gRow_len]
  have hV:((gAll k n xs).getD i []).getD s 0=gS k n xs (xs.length-i) s:=by rw [hT];exact gRow_at hs
  simp only [xr,simprocAttr]
  refine amGo ?_
  rw [hV]
  refine awp_cond amQ (fun hc => ?_) (fun hc => ?_)
  · have hi':i<xs.length:=by
      rcases Nat.lt_or_ge i xs.length with h | h
      · exact h
      · rw [decide_eq_false (show ¬ ((i:Nat):Int)<xs.length by omega)] at hc
        cases hc
    have hc2:0<gS k n xs (xs.length-i) s:=by
      rw [decide_eq_true (show ((i:Nat):Int)<xs.length by omega)] at hc
      exact of_decide_eq_true hc
    have hpl:=hx.low i hi'
    have hph:=hx.high i hi'
    obtain ⟨p,hp⟩:∃ p:Nat,xs.getD i 0=(p:Int):=⟨(xs.getD i 0).toNat,by omega⟩
    have ho:=outS_at (k:=k) (n:=n) (s:=s) hi'
    rw [if_pos hc2,hp,Int.toNat_natCast] at ho
    have hbl:begS s p<2 ^ n:=begS_lt hs
    have hwl:=mkT_lt (k:=k) (xs:=xs) (i:=i) hbl (Nat.le_refl n)
    have hgb:=mkT_bd (k:=k) (xs:=xs) (i:=i) (m:=begS s p) hk0 hk6 hn n hn8
    have hb1:=gS_bd hk0 hk6 hn hn8 (xs.length-(i+1)) (mkT k xs i (begS s p) n).2
    have hE:((i:Int)+1).toNat=i+1:=by omega
    have hT2:(gAll k n xs).getD (i+1) []=gRow k n xs (i+1) (2 ^ n):=gAll_at (by omega)
    have hT2l:((gAll k n xs).getD ((i:Int)+1).toNat []).length=2 ^ n:=by rw [hE,hT2,gRow_len]
    have hV2:((gAll k n xs).getD ((i:Int)+1).toNat []).getD (mkT k xs i (begS s p) n).2 0=gS k n xs (xs.length-(i+1)) (mkT k xs i (begS s p) n).2:=by rw [hE,hT2];exact gRow_at hwl
    have hb2:=hb1
    rw [← hV2] at hb2
    have hlen:ms.length≤60:=by omega
    refine amGo ?_
    rw [hp]
    ((try refine Or.inl ?_);refine ⟨_,(l5Begin_d s p (by omega) (by omega)),.inl rfl,?_⟩;refine amC ?_)
    refine amGo ?_
    ((try refine Or.inl ?_);refine ⟨_,(l5Mark_d k n xs i (begS s p) hk0 hk6 hn8 hn hi' hbl),.inl rfl,?_⟩;refine amC ?_)
    refine amGo ?_
    rw [hV,hV2]
    refine awp_cond amQ (fun hd => ?_) (fun hd => ?_)
    · have hd:=of_decide_eq_true hd
      rw [if_pos hd] at ho
      refine amGo ?_
      refine ⟨(i+1,(mkT k xs i (begS s p) n).2,ms++[(i:Int)]),(by show i+1≤xs.length;omega),hwl,(by show (ms++[(i:Int)])++outS k n xs (xs.length-(i+1)) (mkT k xs i (begS s p) n).2=_;rw [← hms,ho,List.append_assoc];rfl),(by show xs.length-(i+1)<xs.length-i;omega),.inl ?_⟩
      ((try simp only [xk]);(repeat (refine leK_cons ?_ ?_;first | (exact amE) | rotate_left));(refine leK_nil ?_;exact (by rfl));(all_goals (try (simp only [xr,simprocAttr];try refine int_eq1 ?_))))
    · have hd:=of_decide_eq_false hd
      rw [if_neg hd] at ho
      refine amGo ?_
      refine ⟨(i+1,begS s p,ms),(by show i+1≤xs.length;omega),hbl,(by show ms++outS k n xs (xs.length-(i+1)) (begS s p)=_;rw [← hms,ho]),(by show xs.length-(i+1)<xs.length-i;omega),.inl ?_⟩
      ((try simp only [xk]);(repeat (refine leK_cons ?_ ?_;first | (exact amE) | rotate_left));(refine leK_nil ?_;exact (by rfl));(all_goals (try (simp only [xr,simprocAttr];try refine int_eq1 ?_))))
  · have hend:outS k n xs (xs.length-i) s=[]:=by
      rcases Nat.lt_or_ge i xs.length with h | h
      · rw [decide_eq_true (show ((i:Nat):Int)<xs.length by omega)] at hc
        have hc:¬ 0<gS k n xs (xs.length-i) s:=of_decide_eq_false hc
        rw [outS_at h,if_neg hc]
      · rw [show xs.length-i=0 by omega]
        rfl
    rw [hend,List.append_nil] at hms
    subst hms
    refine amGoR ?_
    (refine awp_frz 0 rfl ?_;simp only [xz,simprocAttr])
    refine amGo ?_
    (simp only [xe,simprocAttr];refine ⟨_,rfl,rfl,Imp.eq ?_⟩)
    rfl
end Go.Proofs.YtjblpcgkffhgfaaGreat
