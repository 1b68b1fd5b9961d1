/- Algorithms told by functions, and how many there are, on the machine. Conditions: a problem that is right. -/
import Derived.Test.YtkcelmnbfbehbaaGreatAlgP
set_option linter.all false
namespace Go.Proofs.YtkcelmnbfbehbaaGreat
open Go Go.RowKit Am
def jr (n K:Nat) (F:Nat->Nat->Int):List (List Int):=(List.range n).map fun i=>(List.range K).map fun r=>F i r
theorem Gy {n K:Nat} {F:Nat->Nat->Int} {i:Nat} (h:i<n):(jr n K F).take (i+1)=(jr n K F).take i++[(List.range K).map fun r=>F i r]:=by
 unfold jr
 rw [← List.map_take,← List.map_take,List.take_range,List.take_range,Nat.min_eq_left (by omega),Nat.min_eq_left (by omega),List.range_succ,List.map_append]
 rfl
abbrev pC (m s:List (List Int)):Lf := .ip [.sl (.ii m),.sl (.ii s)] 0
set_option maxHeartbeats 1000000 in
theorem uZ {m s:List (List Int)} (hp:aO m s=true) {f:Nat} {F:Nat->Nat->Int} (hF:∀ i r,i<m.length->r<s.length->Does Tryz.prog f [.int i,.int r,.lf (pC m s)] (.imm (.int (F i r)))) :
  bG Tryz.prog 67 [prA m s,.clo f [pC m s]] [] [] (.lf (.own 0)) [.tree [29,3] (.ii (jr m.length s.length F))]:=by
 have hl:=aQ hp
 refine bY Tryz.func67 rfl Tryz.ntmps67 aX (fun _ _=>by kernel_rfl) rfl rfl rfl ?_
 intro M0 w0 S φ0
 rw [Tryz.results67]
 refine ah ?_
 (refine kQ 1 3 [] rfl rfl rfl ?_;simp only [xu,simprocAttr])
 refine au (α:=Nat) (fun i=>[(13,true,.int i)]) [1,2,5,12] (fun i=>[.box [.b (.sl (.ii m)),.b (.sl (.ii s))],.tree [29,3] (.ii ((jr m.length s.length F).take i))]) (fun i=>i<=m.length) (fun i=>m.length-i) 0 (by exact aV) (Nat.zero_le _) fun i hi =>?_
 have hpl:((jr m.length s.length F).take i).length=i:=by simp [jr];omega
 simp only [xr,simprocAttr]
 refine ah ?_
 refine aj amQ (fun hd =>?_) (fun hd =>?_)
 ·have hd:=of_decide_eq_true hd
  have hi':i<m.length:=by omega
  refine ah ?_
  refine au (α:=Nat) (fun r=>[(20,true,.int r)]) [1,2,5,6,7,12,13,19] (fun r=>[.box [.b (.sl (.ii m)),.b (.sl (.ii s))],.tree [29,3] (.ii ((jr m.length s.length F).take i)),.row 3 (.ints ((List.range r).map fun r=>F i r))]) (fun r=>r<=s.length) (fun r=>s.length-r) 0 (by exact aV) (Nat.zero_le _) fun r hr =>?_
  have hrl:((List.range r).map fun r=>F i r).length=r:=by simp
  simp only [xr,simprocAttr]
  refine ah ?_
  refine aj amQ (fun he =>?_) (fun he =>?_)
  ·have he:=of_decide_eq_true he
   have hr':r<s.length:=by omega
   refine ah ?_
   ((try refine Or.inl ?_);refine ⟨_,(hF i r hi' hr'),amF,?_⟩;refine amC ?_)
   refine ah ?_
   refine ⟨r+1,by omega,by omega,.inl ?_⟩
   exact bI (by rw [List.range_succ,List.map_append]<;>rfl)
  ·have he:=of_decide_eq_false he
   obtain rfl:r=s.length:=by omega
   refine ah ?_
   refine ⟨i+1,by omega,by omega,.inr ⟨2,Nat.le_of_ble_eq_true rfl,aJ ?_ rfl rfl rfl⟩⟩
   exact bI (by rw [Gy hi']<;>rfl)
 ·have hd:=of_decide_eq_false hd
  obtain rfl:i=m.length:=by omega
  rw [List.take_of_length_le (by simp [jr])]
  refine ah ?_
  (simp only [aG,aN];refine dw [1] rfl ⟨rfl,trivial⟩ rfl rfl rfl rfl rfl ?_;try rfl)
theorem XC {m s:List (List Int)} (hp:aO m s=true) (i r:Nat) (hr:r<s.length):Does Tryz.prog 68 [.int i,.int r,.lf (pC m s)] (.imm (.int ((srv s m.length r).getD 0 0))):=by
 have hl:=aQ hp
 have h0:0<(srv s m.length r).length:=by
  have:=wK hp (0*s.length+r)
  rw [KY 0 r hr] at this
  exact this
 refine aC Tryz.func68 rfl Tryz.ntmps68 aX (fun _ _=>by kernel_rfl) rfl (Nat.le_of_ble_eq_true rfl) ?_
 intro M0 w0
 rw [Tryz.results68]
 refine ah ?_
 ((try refine Or.inl ?_);refine ⟨_,(oh m s r hr (eG hp r hr) (by omega)),amF,?_⟩;refine amC ?_)
 refine ah ?_
 refine bV ?_
 rfl
theorem TR {m s:List (List Int)} (hp:aO m s=true):∀ p,gJ (opP m s) p<=4 ^ p
 | 0=>Nat.le_refl _
 | p+1=>by
  have h1:=TR hp p
  have h2:=KZ hp p
  show gJ (opP m s) p*(opP m s p).length<=_
  rw [Nat.pow_succ]
  exact Nat.mul_le_mul h1 h2
theorem Jy {m s:List (List Int)} (hp:aO m s=true) {p:Nat} (h:p<=16):gJ (opP m s) p<=4294967296 :=
 Nat.le_trans (TR hp p) (Nat.pow_le_pow_right (by decide) h)
theorem U0 {m s:List (List Int)} (hp:aO m s=true):m.length*s.length<=16:=by
 have hl:=aQ hp
 exact Nat.mul_le_mul (show m.length<=4 by omega) (show s.length<=4 by omega)
theorem oL {m s:List (List Int)} (hp:aO m s=true):Does Tryz.prog 66 [prA m s] (.imm (.int (eU m s))):=by
 have hl:=aQ hp
 have hkn:=U0 hp
 refine aC Tryz.func66 rfl Tryz.ntmps66 aX (fun _ _=>by kernel_rfl) rfl (Nat.le_of_ble_eq_true rfl) ?_
 intro M0 w0
 rw [Tryz.results66]
 refine ah ?_
 refine au (α:=Nat) (fun i=>[(8,true,.int i),(3,true,.int (gJ (opP m s) (i*s.length)))]) [1,7] (fun _=>[.box [.b (.sl (.ii m)),.b (.sl (.ii s))]]) (fun i=>i<=m.length) (fun i=>m.length-i) 0 (by rw [Nat.zero_mul];((try simp only [xk]);(repeat (refine fP ?_ ?_;first | (exact amE) | rotate_left));(try exact gZ rfl);(all_goals (try (simp only [xr,simprocAttr];try refine gQ ?_))))) (Nat.zero_le _) fun i hi =>?_
 simp only [xr,simprocAttr]
 refine ah ?_
 refine aj amQ (fun hd =>?_) (fun hd =>?_)
 ·have hd:=of_decide_eq_true hd
  have hi':i<m.length:=by omega
  have hm:=DK (K:=s.length) hi'
  refine ah ?_
  refine au (α:=Nat) (fun r=>[(13,true,.int r),(3,true,.int (gJ (opP m s) (i*s.length+r)))]) [1,7,8,12] (fun _=>[.box [.b (.sl (.ii m)),.b (.sl (.ii s))]]) (fun r=>r<=s.length) (fun r=>s.length-r) 0 (by rw [Nat.add_zero];((try simp only [xk]);(repeat (refine fP ?_ ?_;first | (exact amE) | rotate_left));(try exact gZ rfl);(all_goals (try (simp only [xr,simprocAttr];try refine gQ ?_))))) (Nat.zero_le _) fun r hr =>?_
  have hc:=Jy hp (p:=i*s.length+r) (by omega)
  simp only [xr,simprocAttr]
  refine ah ?_
  refine aj amQ (fun he =>?_) (fun he =>?_)
  ·have he:=of_decide_eq_true he
   have hr':r<s.length:=by omega
   have hc2:=Jy hp (p:=i*s.length+(r+1)) (by omega)
   have e1:gJ (opP m s) (i*s.length+(r+1))=gJ (opP m s) (i*s.length+r)*(srv s m.length r).length:=by
    show gJ (opP m s) (i*s.length+r)*(opP m s (i*s.length+r)).length=_
    rw [KY i r hr']
    rfl
   have e2:((gJ (opP m s) (i*s.length+r):Nat):Int)*((srv s m.length r).length:Nat)=(gJ (opP m s) (i*s.length+(r+1)):Nat):=by rw [e1,Int.natCast_mul]
   have i1:I64 (((gJ (opP m s) (i*s.length+r):Nat):Int)*((srv s m.length r).length:Nat)):=by rw [e2];unfold I64;omega
   refine ah ?_
   ((try refine Or.inl ?_);refine ⟨_,(oh m s r hr' (eG hp r hr') (by omega)),amF,?_⟩;refine amC ?_)
   refine ah ?_
   refine ⟨r+1,by omega,by omega,.inl ?_⟩
   exact dQ
  ·have he:=of_decide_eq_false he
   obtain rfl:r=s.length:=by omega
   have e3:i*s.length+s.length=(i+1)*s.length:=by rw [Nat.succ_mul]
   refine ah ?_
   refine ⟨i+1,by omega,by omega,.inl ?_⟩
   rw [e3]
   exact dQ
 ·have hd:=of_decide_eq_false hd
  obtain rfl:i=m.length:=by omega
  refine ah ?_
  refine bV ?_
  rfl
def uC (m s:List (List Int)) (r i:Nat):Nat:=nY (fun r=>cR m s r ^ m.length) r*cR m s r ^ i
theorem Zb {m s:List (List Int)} (hp:aO m s=true) {r:Nat} (hr:r<s.length):cR m s r<=4:=by
 rw [← KY 0 r hr]
 exact KZ hp _
theorem Le {c:Nat->Nat} {B:Nat}:∀ k,(∀ r,r<k->c r<=B)->nY c k<=B ^ k
 | 0,_=>Nat.le_refl _
 | k+1,h=>by
  have ih:=Le k fun r hr=>h r (by omega)
  have h1:=h k (by omega)
  rw [nY,Nat.pow_succ]
  exact Nat.mul_le_mul ih h1
theorem Zx {m s:List (List Int)} (hp:aO m s=true) {r i:Nat} (hr:r<s.length) (hi:i<=m.length):uC m s r i<=4294967296:=by
 have hl:=aQ hp
 have h1:=Le (c:=fun r=>cR m s r ^ m.length) (B:=4 ^ m.length) r fun q hq=>Nat.pow_le_pow_left (Zb hp (by omega)) _
 have h2:cR m s r ^ i<=4 ^ i:=Nat.pow_le_pow_left (Zb hp hr) _
 have h3:(4 ^ m.length) ^ r<=(4 ^ 4) ^ 3:=Nat.le_trans (Nat.pow_le_pow_left (Nat.pow_le_pow_right (by decide) (by omega)) r) (Nat.pow_le_pow_right (by decide) (by omega))
 have h4:4 ^ i<=4 ^ 4:=Nat.pow_le_pow_right (by decide) (by omega)
 have h5:=Nat.mul_le_mul (Nat.le_trans h1 h3) (Nat.le_trans h2 h4)
 exact Nat.le_trans h5 (by decide)
theorem YZ (m s:List (List Int)) (r:Nat):uC m s r m.length=uC m s (r+1) 0:=by
 unfold uC
 rw [nY,Nat.pow_zero,Nat.mul_one]
theorem ac1 (m s:List (List Int)):uC m s s.length 0=eU m s:=by
 unfold uC
 rw [Nat.pow_zero,Nat.mul_one,Gt,Xo]
theorem Y0 (m s:List (List Int)) (r i:Nat):((uC m s r (i+1):Nat):Int)=(uC m s r i:Nat)*(cR m s r:Nat):=by
 rw [← Int.natCast_mul]
 unfold uC
 rw [Nat.pow_succ,Nat.mul_assoc]
set_option maxHeartbeats 1000000 in
theorem tY {m s:List (List Int)} (hp:aO m s=true):Does Tryz.prog 75 [prA m s] (.imm (.tup [.one (.b (.val (.int .i64 (eU m s:Nat)))),.one (.b (.val (.bool true)))])):=by
 have hl:=aQ hp
 refine aC Tryz.func75 rfl Tryz.ntmps75 aX (fun _ _=>by kernel_rfl) rfl (Nat.le_of_ble_eq_true rfl) ?_
 intro M0 w0
 rw [Tryz.results75]
 refine ah ?_
 ((try refine Or.inl ?_);refine ⟨_,(sS m s),.inl rfl,?_⟩;refine amC ?_)
 rw [hp]
 refine ah ?_
 refine aj amQ (fun hz =>?_) (fun hz =>?_)
 ·cases hz
 refine ah ?_
 refine au (α:=Nat) (fun r=>[(5,true,.int r),(4,true,.int (uC m s r 0:Nat))]) [1] (fun _=>[.box [.b (.sl (.ii m)),.b (.sl (.ii s))]]) (fun r=>r<=s.length) (fun r=>s.length-r) 0 (by exact aV) (Nat.zero_le _) fun r hr =>?_
 simp only [xr,simprocAttr]
 refine ah ?_
 refine aj amQ (fun hd =>?_) (fun hd =>?_)
 ·have hd:=of_decide_eq_true hd
  have hr':r<s.length:=by omega
  have hrow:=eG hp r hr'
  refine ah ?_
  refine au (α:=Nat) (fun t=>[(7,true,.int t),(6,true,.int ((srv s t r).length:Nat))]) [1,4,5] (fun _=>[.box [.b (.sl (.ii m)),.b (.sl (.ii s))]]) (fun t=>t<=m.length/\(srv s t r).length<=t) (fun t=>m.length-t) 0 (by exact aV) ⟨Nat.zero_le _,Nat.le_refl _⟩ fun t ht =>?_
  obtain ⟨ht,htl⟩:=ht
  have hst:=lM s t r
  unfold at2 at hst
  simp only [xr,simprocAttr]
  refine ah ?_
  refine aj amQ (fun he =>?_) (fun he =>?_)
  ·have he:=of_decide_eq_true he
   have ht':t<m.length:=by omega
   refine ah ?_
   refine aj amQ (fun hf =>?_) (fun hf =>?_)
   ·have hf:=of_decide_eq_true hf
    rw [if_pos hf] at hst
    have e1:(srv s (t+1) r).length=(srv s t r).length+1:=by rw [hst];simp
    refine ah ?_
    refine ⟨t+1,by omega,by omega,by omega,.inl ?_⟩
    exact aV
   ·have hf:=of_decide_eq_false hf
    rw [if_neg hf] at hst
    have e1:(srv s (t+1) r).length=(srv s t r).length:=by rw [hst]
    refine ah ?_
    refine ⟨t+1,by omega,by omega,by omega,.inl ?_⟩
    exact aV
  ·have he:=of_decide_eq_false he
   obtain rfl:t=m.length:=by omega
   refine ah ?_
   refine au (α:=Nat) (fun i=>[(8,true,.int i),(4,true,.int (uC m s r i:Nat))]) [1,5,6] (fun _=>[.box [.b (.sl (.ii m)),.b (.sl (.ii s))]]) (fun i=>i<=m.length) (fun i=>m.length-i) 0 (by exact aV) (Nat.zero_le _) fun i hi =>?_
   have hu:=Zx hp hr' hi
   simp only [xr,simprocAttr]
   refine ah ?_
   refine aj amQ (fun hg =>?_) (fun hg =>?_)
   ·have hg:=of_decide_eq_true hg
    have hu2:=Zx hp hr' (show i+1<=m.length by omega)
    have e2:=Y0 m s r i
    have e3:((cR m s r:Nat):Int)=((srv s m.length r).length:Nat):=rfl
    rw [e3] at e2
    have i1:I64 (((uC m s r i:Nat):Int)*((srv s m.length r).length:Nat)):=by rw [← e2];unfold I64;omega
    have e4:=e2.symm
    refine ah ?_
    refine ⟨i+1,by omega,by omega,.inl ?_⟩
    exact aV
   ·have hg:=of_decide_eq_false hg
    obtain rfl:i=m.length:=by omega
    rw [YZ]
    refine ah ?_
    refine ⟨r+1,by omega,by omega,.inl ?_⟩
    exact aV
 ·have hd:=of_decide_eq_false hd
  obtain rfl:r=s.length:=by omega
  rw [ac1]
  refine ah ?_
  (simp only [xe,simprocAttr];refine ⟨[_,_],⟨rfl,rfl,trivial⟩,rfl,Imp.eq ?_⟩)
  rfl
theorem Vr {m s:List (List Int)} {p i:Nat} (hi:i<(fQ (opP m s) p).length):((fQ (opP m s) p).getD i []).length=p :=
 yg _ _ _ (by rw [getD_in hi];exact List.getElem_mem _)
abbrev exT (p:Nat) (o:List Int) (L:List (List Int)):List (List Int):=L.flatMap fun l=>o.map fun t=>l++[t]
theorem Un {p:Nat} {o:List Int} {L:List (List Int)} {i:Nat} (hi:i<L.length):exT p o (L.take (i+1))=exT p o (L.take i)++o.map fun t=>L.getD i []++[t]:=by
 unfold exT
 rw [eH hi [],List.flatMap_append]
 simp
theorem XV {p:Nat} {o:List Int} {L:List (List Int)}:(exT p o L).length=L.length*o.length:=CV fun l _=>by simp
set_option maxHeartbeats 2000000 in
theorem Dn {m s:List (List Int)} (hp:aO m s=true) (hn:eU m s<=300):Does Tryz.prog 76 [prA m s] (.imm (.sl (.iii ((fQ (opP m s) (m.length*s.length)).map (dB s.length m.length))))):=by
 have hl:=aQ hp
 have hkn:=U0 hp
 have hcle:∀ p,p<=m.length*s.length->gJ (opP m s) p<=300:=fun p h=>by
  have:=AP (wK hp) p (m.length*s.length-p)
  rw [show p+(m.length*s.length-p)=m.length*s.length by omega] at this
  exact Nat.le_trans this hn
 have enk:((m.length:Nat):Int)*(s.length:Nat)=(m.length*s.length:Nat):=by rw [Int.natCast_mul]
 have i0:I64 (((m.length:Nat):Int)*(s.length:Nat)):=by rw [enk];unfold I64;omega
 refine aC Tryz.func76 rfl Tryz.ntmps76 aX (fun _ _=>by kernel_rfl) rfl (Nat.le_of_ble_eq_true rfl) ?_
 intro M0 w0
 rw [Tryz.results76]
 refine ah ?_
 (refine dU 2 rfl ?_;simp only [xz,simprocAttr])
 refine au (α:=Nat) (fun p=>[(6,true,.int p),(5,true,.sl (.ii (fQ (opP m s) p)))]) [1,3,4] (fun _=>[.box [.b (.sl (.ii m)),.b (.sl (.ii s))],.gone,.gone]) (fun p=>p<=m.length*s.length) (fun p=>m.length*s.length-p) 0 (by exact aV) (Nat.zero_le _) fun p hp' =>?_
 have hll:=jT (opP m s) p
 have hc1:=hcle p hp'
 simp only [xr,simprocAttr]
 refine ah ?_
 rw [enk]
 refine aj amQ (fun hd =>?_) (fun hd =>?_)
 ·have hd:=of_decide_eq_true hd
  have hp2:p<m.length*s.length:=by omega
  have hmod:=Nat.mod_lt p (show 0<s.length by omega)
  have emod:((p:Nat):Int) % (s.length:Nat)=(p % s.length:Nat):=by rw [Int.natCast_emod]
  have e5:(((p:Nat):Int) % (s.length:Nat)).toNat=p % s.length:=by rw [emod,Int.toNat_natCast]
  have hm0:0<=((p:Nat):Int) % (s.length:Nat):=by rw [emod];exact Int.natCast_nonneg _
  have hm1:((p:Nat):Int) % (s.length:Nat)<(s.length:Nat):=by rw [emod];exact Int.ofNat_lt.2 hmod
  have hm2:(((p:Nat):Int) % (s.length:Nat)).toNat<s.length:=by rw [e5];exact hmod
  have hrow:=eG hp _ hmod
  rw [← e5] at hrow
  refine ah ?_
  (refine kQ 3 3 [] rfl rfl rfl ?_;simp only [xu,simprocAttr])
  refine au (α:=Nat) (fun i=>[(8,true,.int i)]) [1,3,4,5,6,7] (fun i=>[.box [.b (.sl (.ii m)),.b (.sl (.ii s))],.gone,.gone,.tree [29,3] (.ii (exT p (opP m s p) ((fQ (opP m s) p).take i)))]) (fun i=>i<=(fQ (opP m s) p).length) (fun i=>(fQ (opP m s) p).length-i) 0 (by exact aV) (Nat.zero_le _) fun i hi =>?_
  simp only [xr,simprocAttr]
  refine ah ?_
  refine aj amQ (fun he =>?_) (fun he =>?_)
  ·have he:=of_decide_eq_true he
   have hi':i<(fQ (opP m s) p).length:=by omega
   have hel:=Vr hi'
   refine ah ?_
   refine au (α:=Nat) (fun t=>[(9,true,.int t)]) [1,3,4,5,6,7,8] (fun t=>[.box [.b (.sl (.ii m)),.b (.sl (.ii s))],.gone,.gone,.tree [29,3] (.ii (exT p (opP m s p) ((fQ (opP m s) p).take i)++(srv s t (p % s.length)).map fun t=>(fQ (opP m s) p).getD i []++[t]))]) (fun t=>t<=m.length/\(srv s t (p % s.length)).length<=t) (fun t=>m.length-t) 0 (by exact bI (by simp [srv])) ⟨Nat.zero_le _,Nat.le_refl _⟩ fun t ht =>?_
   obtain ⟨ht,htl⟩:=ht
   have hst:=lM s t (p % s.length)
   unfold at2 at hst
   have hxl:(exT p (opP m s p) ((fQ (opP m s) p).take i)++(srv s t (p % s.length)).map fun t=>(fQ (opP m s) p).getD i []++[t]).length<=2000:=by
    have h1:=XV (p:=p) (o:=opP m s p) (L:=(fQ (opP m s) p).take i)
    have h2:((fQ (opP m s) p).take i).length*(opP m s p).length<=300*4:=Nat.mul_le_mul (by rw [List.length_take];omega) (KZ hp p)
    rw [List.length_append,List.length_map]
    omega
   generalize hX:exT p (opP m s p) ((fQ (opP m s) p).take i)=X at *
   simp only [xr,simprocAttr]
   refine ah ?_
   refine aj amQ (fun hf =>?_) (fun hf =>?_)
   ·have hf:=of_decide_eq_true hf
    have ht':t<m.length:=by omega
    refine ah ?_
    rw [e5]
    refine aj amQ (fun hg =>?_) (fun hg =>?_)
    ·have hg:=of_decide_eq_true hg
     rw [if_pos hg] at hst
     have e1:(srv s (t+1) (p % s.length)).length=(srv s t (p % s.length)).length+1:=by rw [hst];simp
     refine ah ?_
     refine ⟨t+1,by omega,by omega,by omega,.inr ⟨4,Nat.le_of_ble_eq_true rfl,aJ ?_ rfl rfl rfl⟩⟩
     exact bI (by rw [hst,List.map_append,← List.append_assoc]<;>rfl)
    ·have hg:=of_decide_eq_false hg
     rw [if_neg hg] at hst
     have e1:(srv s (t+1) (p % s.length)).length=(srv s t (p % s.length)).length:=by rw [hst]
     refine ah ?_
     refine ⟨t+1,by omega,by omega,by omega,.inl ?_⟩
     exact bI (by rw [hst]<;>rfl)
   ·have hf:=of_decide_eq_false hf
    obtain rfl:t=m.length:=by omega
    have hnx:=Un (p:=p) (o:=opP m s p) hi'
    rw [hX] at hnx
    refine ah ?_
    refine ⟨i+1,by omega,by omega,.inl ?_⟩
    exact bI (by rw [hnx]<;>rfl)
  ·have he:=of_decide_eq_false he
   obtain rfl:i=(fQ (opP m s) p).length:=by omega
   rw [List.take_length]
   refine amB ?_
   (refine dU 3 rfl ?_;simp only [xz,simprocAttr])
   refine ah ?_
   refine ⟨p+1,by omega,by omega,.inr ⟨3,Nat.le_of_ble_eq_true rfl,aJ ?_ rfl rfl rfl⟩⟩
   exact aV
 ·have hd:=of_decide_eq_false hd
  obtain rfl:p=m.length*s.length:=by omega
  refine ah ?_
  refine au (α:=Nat) (fun i=>[(11,true,.int i)]) [3,4,5,10] (fun i=>[.box [.b (.sl (.ii m)),.b (.sl (.ii s))],.gone,.gone,.row 24 (.iii (((fQ (opP m s) (m.length*s.length)).take i).map (dB s.length m.length)))]) (fun i=>i<=(fQ (opP m s) (m.length*s.length)).length) (fun i=>(fQ (opP m s) (m.length*s.length)).length-i) 0 (by exact aV) (Nat.zero_le _) fun i hi =>?_
  have htl:(((fQ (opP m s) (m.length*s.length)).take i).map (dB s.length m.length)).length<=300:=by rw [List.length_map,List.length_take];omega
  simp only [xr,simprocAttr]
  refine ah ?_
  refine aj amQ (fun he =>?_) (fun he =>?_)
  ·have he:=of_decide_eq_true he
   have hi':i<(fQ (opP m s) (m.length*s.length)).length:=by omega
   have hel:=Vr hi'
   have htk:=eH hi' []
   obtain ⟨li,hli⟩:∃ li,li=(fQ (opP m s) (m.length*s.length)).getD i []:=⟨_,rfl⟩
   rw [← hli] at hel htk
   refine ah ?_
   refine au (α:=Nat) (fun q=>[(13,true,.int q)]) [3,4,5,10,11,12] (fun q=>[.box [.b (.sl (.ii m)),.b (.sl (.ii s))],.gone,.gone,.row 24 (.iii (((fQ (opP m s) (m.length*s.length)).take i).map (dB s.length m.length))),.row 29 (.ii ((dB s.length m.length li).take q))]) (fun q=>q<=m.length) (fun q=>m.length-q) 0 (by exact aV) (Nat.zero_le _) fun q hq =>?_
   have hql:((dB s.length m.length li).take q).length<=4:=by rw [List.length_take];omega
   simp only [xr,simprocAttr]
   refine ah ?_
   refine aj amQ (fun hf =>?_) (fun hf =>?_)
   ·have hf:=of_decide_eq_true hf
    have hq':q<m.length:=by omega
    have hmk:=DK (K:=s.length) hq'
    have e6:((q:Nat):Int)*(s.length:Nat)=(q*s.length:Nat):=by rw [Int.natCast_mul]
    have e7:(((q:Nat):Int)+1)*(s.length:Nat)=((q+1)*s.length:Nat):=by rw [Int.natCast_mul];rfl
    have e8:(q+1)*s.length=q*s.length+s.length:=Nat.succ_mul _ _
    have i1:I64 (((q:Nat):Int)*(s.length:Nat)):=by rw [e6];unfold I64;omega
    have i2:I64 ((((q:Nat):Int)+1)*(s.length:Nat)):=by rw [e7];unfold I64;omega
    have j1:0<=((q:Nat):Int)*(s.length:Nat):=by rw [e6];omega
    have j2:((q:Nat):Int)*(s.length:Nat)<=(((q:Nat):Int)+1)*(s.length:Nat):=by rw [e6,e7];omega
    have j3:(((q:Nat):Int)+1)*(s.length:Nat)<=(li.length:Nat):=by rw [e7];omega
    have j4:=j3
    rw [hli] at j4
    have e9:(li.take ((q+1)*s.length)).drop (q*s.length)=(dB s.length m.length li).getD q []:=by
     rw [uQ hq',List.drop_take]
     congr 1
     omega
    have htq:=eH (rs:=dB s.length m.length li) (k:=q) (by rw [fA];exact hq') []
    refine ah ?_
    rw [show (((q:Nat):Int)*(s.length:Nat)).toNat=q*s.length by rw [e6,Int.toNat_natCast],show ((((q:Nat):Int)+1)*(s.length:Nat)).toNat=(q+1)*s.length by rw [e7,Int.toNat_natCast],← hli,e9]
    refine ⟨q+1,by omega,by omega,.inl ?_⟩
    exact bI (by rw [htq]<;>rfl)
   ·have hf:=of_decide_eq_false hf
    obtain rfl:q=m.length:=by omega
    rw [show (dB s.length m.length li).take m.length=dB s.length m.length li from List.take_of_length_le (by rw [fA];omega)]
    refine amB ?_
    (refine aU 4 rfl ?_;simp only [xz,simprocAttr])
    refine ah ?_
    refine ⟨i+1,by omega,by omega,.inr ⟨4,Nat.le_of_ble_eq_true rfl,aJ ?_ rfl rfl rfl⟩⟩
    exact bI (by rw [htk,List.map_append]<;>rfl)
  ·have he:=of_decide_eq_false he
   obtain rfl:i=(fQ (opP m s) (m.length*s.length)).length:=by omega
   rw [List.take_length]
   refine amB ?_
   (refine aU 3 rfl ?_;simp only [xz,simprocAttr])
   refine ah ?_
   refine bV ?_
   rfl
end Go.Proofs.YtkcelmnbfbehbaaGreat
