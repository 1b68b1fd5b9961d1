/- Common divisors, and searches for cycles with a gain. Conditions: those that each names. -/
import Derived.Test.YtkcelmnbfbehbaaGreatGED
import Derived.Test.YtkcelmnbfbehbaaGreatGBM
set_option linter.all false
namespace Go.Proofs.YtkcelmnbfbehbaaGreat
open Go Go.RowKit Am
theorem Fj (a b:Int) (ha:0<=a) (hb:0<=b) (ha2:a<=9223372036854775807) (hb2:b<=9223372036854775807):Does Tryz.prog 146 [.int a,.int b] (.imm (.int (Int.gcd a b))) :=
 nJ (v := .int .i64 (Int.gcd a b)) (fun _ _=>by kernel_rfl) fun M w us hm h=>by
  obtain ⟨u,us',rfl,k1,k2⟩:=dh h
  obtain ⟨u',us'',rfl,k3,k4⟩:=dh k2
  obtain rfl:=iq k4
  obtain rfl:u = .int .i64 a:=k1
  obtain rfl:u' = .int .i64 b:=k3
  exact (iD w a b ha hb ha2 hb2).mono fun e w' ⟨h1,h2⟩=>⟨h1,h2.below _⟩
theorem DX {E:List (List Int)} {n:Nat} {wt:List Int->Int} (hE:pz E n):∃ r,ada E wt n (rxR wt E) r/\((r=(0,0,false)/\∃ L,pX E wt L)\/∃ v es,Wk E v es v/\es.length<=n/\0<aH wt es/\r=(aH dO es,aH cu es,true)):=by
 rcases H6 (rxR wt E) n with ⟨t,ht⟩ | hn
 ·exact ⟨_,.inl ⟨t,ht,rfl⟩,.inl ⟨rfl,_,ht.pot fun s t=>BI.gs hE⟩⟩
 ·obtain ⟨v,h1,h2,h3,p,hp⟩:=hn.cyc hE fun s t=>BI.gs hE
  exact ⟨_,.inr ⟨hn,v,p,h1,h2,h3,hp,rfl⟩,.inr ⟨_,_,hp.wk,hp.len,hp.gain,rfl⟩⟩
def gdP (m s:List (List Int)) (i r:Nat) (us:List Int):Nat->Int
 | 0 => -1
 | k+1=>if gdP m s i r us k<0\/at2 m i (us.getD k 0).toNat+at2 s r (us.getD k 0).toNat<at2 m i (gdP m s i r us k).toNat+at2 s r (gdP m s i r us k).toNat then us.getD k 0 else gdP m s i r us k
theorem Nc (m s:List (List Int)) (i r:Nat) (us:List Int):∀ k,k<=us.length->(k=0/\gdP m s i r us k = -1)\/gdP m s i r us k∈us
 | 0,_ => .inl ⟨rfl,rfl⟩
 | k+1,h=>by
  have hin:us.getD k 0∈us:=by rw [getD_in (by omega)];exact List.getElem_mem _
  unfold gdP
  split
  ·exact .inr hin
  ·rename_i hn
   rcases Nc m s i r us k (by omega) with ⟨h1,h2⟩ | h2
   ·exact absurd (.inl (by rw [h2];decide)) hn
   ·exact .inr h2
def gdF (m s:List (List Int)) (i r:Nat):Int:=gdP m s i r (srv s m.length r) (srv s m.length r).length
theorem UH {m s:List (List Int)} (hp:aO m s=true) (i:Nat) {r:Nat} (hr:r<s.length):gdF m s i r∈srv s m.length r:=by
 have h0:0<(srv s m.length r).length:=by
  have:=wK hp (0*s.length+r)
  rw [KY 0 r hr] at this
  exact this
 rcases Nc m s i r (srv s m.length r) _ (Nat.le_refl _) with ⟨h1,_⟩ | h1
 ·omega
 ·exact h1
theorem J4 {m s:List (List Int)} (hp:aO m s=true) {i r:Nat} (hi:i<m.length) (hr:r<s.length):Does Tryz.prog 81 [prA m s,.int i,.int r] (.imm (.int (gdF m s i r))):=by
 have hl:=aQ hp
 unfold gdF
 have hsl:=qY s m.length r
 have hmem:=fun t (h:t<(srv s m.length r).length)=>IZ (s:=s) (n:=m.length) (r:=r) h
 have hgd:=Nc m s i r (srv s m.length r)
 have hin:∀ x∈srv s m.length r,∃ y:Nat,x=y/\y<m.length:=fun x hx=>by
  obtain ⟨t,ht,rfl⟩:=List.getElem_of_mem hx
  obtain ⟨y,h1,h2,_⟩:=hmem t ht
  rw [getD_in ht] at h1
  exact ⟨y,h1,h2⟩
 have hsv:=oh m s r hr (eG hp r hr) (by omega)
 generalize srv s m.length r=us at *
 refine aC Tryz.func81 rfl Tryz.ntmps81 aX (fun _ _=>by kernel_rfl) rfl (Nat.le_of_ble_eq_true rfl) ?_
 intro M0 w0
 rw [Tryz.results81]
 refine ah ?_
 ((try refine Or.inl ?_);refine ⟨_,(hsv),amF,?_⟩;refine amC ?_)
 refine ah ?_
 refine au (α:=Nat) (fun k=>[(14,true,.int k),(7,true,.int (gdP m s i r us k))]) [1,2,3,12,13] (fun _=>[.box [.b (.sl (.ii m)),.b (.sl (.ii s))]]) (fun k=>k<=us.length) (fun k=>us.length-k) 0 (by exact dQ) (Nat.zero_le _) fun k hk =>?_
 simp only [xr,simprocAttr]
 refine ah ?_
 refine aj amQ (fun hd =>?_) (fun hd =>?_)
 ·have hd:=of_decide_eq_true hd
  have hk':k<us.length:=by omega
  obtain ⟨y,hy,hyl,_⟩:=hmem k hk'
  have hg0:=hgd k hk
  have hg1:0<=gdP m s i r us k->∃ z:Nat,gdP m s i r us k=z/\z<m.length:=fun h=>by
   rcases hg0 with ⟨_,h1⟩ | h1
   ·omega
   ·exact hin _ h1
  have hst:gdP m s i r us (k+1)=if gdP m s i r us k<0\/at2 m i (us.getD k 0).toNat+at2 s r (us.getD k 0).toNat<at2 m i (gdP m s i r us k).toNat+at2 s r (gdP m s i r us k).toNat then us.getD k 0 else gdP m s i r us k:=rfl
  refine ah ?_
  rw [hy] at hst ⊢
  rw [Int.toNat_natCast] at hst
  by_cases hb:gdP m s i r us k<0
  ·rw [if_pos (.inl hb)] at hst
   ((try refine Or.inl ?_);refine ⟨_,(fun _=>vU m s i y r i y r rfl rfl rfl hp hi hyl hr),.inl rfl,?_⟩;refine amC ?_)
   refine ah ?_
   refine ⟨AV.int 0,(fun h=>by simp [hb] at h),.inl rfl,?_⟩
   refine amC ?_
   refine ah ?_
   refine aj amQ (fun he =>?_) (fun he =>?_)
   ·refine ah ?_
    refine ⟨k+1,by omega,by omega,.inl ?_⟩
    rw [hst]
    exact dQ
   ·simp [hb] at he
  ·obtain ⟨z,hz,hzl⟩:=hg1 (by omega)
   rw [hz,Int.toNat_natCast] at hst
   rw [hz] at hb ⊢
   ((try refine Or.inl ?_);refine ⟨_,(fun _=>vU m s i y r i y r rfl rfl rfl hp hi hyl hr),.inl rfl,?_⟩;refine amC ?_)
   refine ah ?_
   ((try refine Or.inl ?_);refine ⟨_,(fun _=>vU m s i z r i z r rfl rfl rfl hp hi hzl hr),.inl rfl,?_⟩;refine amC ?_)
   refine ah ?_
   refine aj amQ (fun he =>?_) (fun he =>?_)
   ·rw [if_pos (by simpa using he)] at hst
    refine ah ?_
    refine ⟨k+1,by omega,by omega,.inl ?_⟩
    rw [hst]
    exact dQ
   ·rw [if_neg (by simpa using he)] at hst
    refine ah ?_
    refine ⟨k+1,by omega,by omega,.inl ?_⟩
    rw [hst]
    exact dQ
 ·have hd:=of_decide_eq_false hd
  obtain rfl:k=us.length:=by omega
  refine ah ?_
  refine bV ?_
  rfl
def lzF (m s:List (List Int)) (i r:Nat):Int:=if 0<=at2 s r i then (i:Int) else gdF m s i r
theorem Z8 {m s:List (List Int)} (hp:aO m s=true) {i r:Nat} (hi:i<m.length) (hr:r<s.length):lzF m s i r∈srv s m.length r:=by
 unfold lzF
 split
 ·rename_i h
  unfold srv
  exact List.mem_map.2 ⟨i,List.mem_filter.2 ⟨List.mem_range.2 hi,decide_eq_true h⟩,rfl⟩
 ·exact UH hp i hr
theorem Yh {m s:List (List Int)} (hp:aO m s=true) (i r:Nat) (hi:i<m.length) (hr:r<s.length):Does Tryz.prog 82 [.int i,.int r,.lf (pC m s)] (.imm (.int (lzF m s i r))):=by
 have hl:=aQ hp
 have hrow:=eG hp r hr
 have hg:=J4 hp hi hr
 have e:at2 s r i=(s.getD r []).getD i 0:=rfl
 refine aC Tryz.func82 rfl Tryz.ntmps82 aX (fun _ _=>by kernel_rfl) rfl (Nat.le_of_ble_eq_true rfl) ?_
 intro M0 w0
 rw [Tryz.results82]
 refine ah ?_
 refine aj amQ (fun h =>?_) (fun h =>?_)
 ·have h:=of_decide_eq_true h
  have hz:lzF m s i r=i:=by unfold lzF;rw [if_pos (by rw [e];exact h)]
  rw [hz]
  refine ah ?_
  refine bV ?_
  rfl
 ·have h:=of_decide_eq_false h
  have hz:lzF m s i r=gdF m s i r:=by unfold lzF;rw [if_neg (by rw [e];exact h)]
  rw [hz]
  refine ah ?_
  ((try refine Or.inl ?_);refine ⟨_,(hg),amF,?_⟩;refine amC ?_)
  refine ah ?_
  refine bV ?_
  rfl
set_option maxHeartbeats 1000000 in
theorem EK {m s:List (List Int)} (hp:aO m s=true) {f:Nat} {F:Nat->Nat->Int} (hF:∀ i r,i<m.length->r<s.length->Does Tryz.prog f [prA m s,.int i,.int r] (.imm (.int (F i r)))) :
  bG Tryz.prog 67 [prA m s,.lf (.b (.bm f [m,s]))] [] [] (.lf (.own 0)) [.tree [29,3] (.ii (jr m.length s.length F))]:=by
 have hl:=aQ hp
 refine bY Tryz.func67 rfl Tryz.ntmps67 aX (fun _ _=>by kernel_rfl) rfl rfl rfl ?_
 intro M0 w0 S φ0
 rw [Tryz.results67]
 refine ah ?_
 (refine kQ 1 3 [] rfl rfl rfl ?_;simp only [xu,simprocAttr])
 refine au (α:=Nat) (fun i=>[(13,true,.int i)]) [1,2,5,12] (fun i=>[.box [.b (.sl (.ii m)),.b (.sl (.ii s))],.tree [29,3] (.ii ((jr m.length s.length F).take i))]) (fun i=>i<=m.length) (fun i=>m.length-i) 0 (by exact aV) (Nat.zero_le _) fun i hi =>?_
 have hpl:((jr m.length s.length F).take i).length=i:=by simp [jr];omega
 simp only [xr,simprocAttr]
 refine ah ?_
 refine aj amQ (fun hd =>?_) (fun hd =>?_)
 ·have hd:=of_decide_eq_true hd
  have hi':i<m.length:=by omega
  refine ah ?_
  refine au (α:=Nat) (fun r=>[(20,true,.int r)]) [1,2,5,6,7,12,13,19] (fun r=>[.box [.b (.sl (.ii m)),.b (.sl (.ii s))],.tree [29,3] (.ii ((jr m.length s.length F).take i)),.row 3 (.ints ((List.range r).map fun r=>F i r))]) (fun r=>r<=s.length) (fun r=>s.length-r) 0 (by exact aV) (Nat.zero_le _) fun r hr =>?_
  have hrl:((List.range r).map fun r=>F i r).length=r:=by simp
  simp only [xr,simprocAttr]
  refine ah ?_
  refine aj amQ (fun he =>?_) (fun he =>?_)
  ·have he:=of_decide_eq_true he
   have hr':r<s.length:=by omega
   refine ah ?_
   ((try refine Or.inl ?_);refine ⟨_,(hF i r hi' hr'),rfl,?_⟩;refine amC ?_)
   refine ah ?_
   refine ⟨r+1,by omega,by omega,.inl ?_⟩
   exact bI (by rw [List.range_succ,List.map_append]<;>rfl)
  ·have he:=of_decide_eq_false he
   obtain rfl:r=s.length:=by omega
   refine ah ?_
   refine ⟨i+1,by omega,by omega,.inr ⟨2,Nat.le_of_ble_eq_true rfl,aJ ?_ rfl rfl rfl⟩⟩
   exact bI (by rw [Gy hi']<;>rfl)
 ·have hd:=of_decide_eq_false hd
  obtain rfl:i=m.length:=by omega
  rw [List.take_of_length_le (by simp [jr])]
  refine ah ?_
  (simp only [aG,aN];refine dw [1] rfl ⟨rfl,trivial⟩ rfl rfl rfl rfl rfl ?_;try rfl)
theorem J8 {m s:List (List Int)} (hp:aO m s=true):bG Tryz.prog 26 [prA m s] [] [] (.tup [.one (.own 0),blT true]) [.tree [29,3] (.ii (jr m.length s.length (lzF m s)))]:=by
 refine bY Tryz.func26 rfl Tryz.ntmps26 aX (fun _ _=>by kernel_rfl) rfl rfl rfl ?_
 intro M0 w0 S φ0
 rw [Tryz.results26]
 refine ah ?_
 ((try refine Or.inl ?_);refine ⟨_,(sQ m s),.inl rfl,?_⟩;refine amC ?_)
 rw [hp]
 refine ah ?_
 refine aj amQ (fun h =>?_) (fun h =>?_)
 ·simp at h
 refine ah ?_
 (refine .inr (.inl (fU (uZ hp (Yh hp)) rfl rfl rfl rfl rfl rfl rfl ?_));refine amC ?_)
 refine ah ?_
 (simp only [aG,aN];refine kM (vs:=[_,_]) [1] rfl ⟨rfl,trivial⟩ rfl rfl rfl rfl ⟨rfl,rfl,trivial⟩ ?_;try rfl)
theorem J9 {m s:List (List Int)} (hp:aO m s=true):Does Tryz.prog 26 [prA m s] (.imm (.tup [.one (.b (.sl (.ii (jr m.length s.length (lzF m s))))),blT true])):=nP (J8 hp)
theorem EN {m s:List (List Int)} (hp:aO m s=true):Does Tryz.prog 25 [prA m s] (.imm (.tup [.one (.b (.sl (.ii (jr m.length s.length (gdF m s))))),blT true])):=by
 have hA:Does Tryz.prog 67 [prA m s,.lf (.b (.bm 81 [m,s]))] (.imm (.sl (.ii (jr m.length s.length (gdF m s))))):=nP (EK hp fun i r hi hr=>J4 hp hi hr)
 refine aC Tryz.func25 rfl Tryz.ntmps25 aX (fun _ _=>by kernel_rfl) rfl (Nat.le_of_ble_eq_true rfl) ?_
 intro M0 w0
 rw [Tryz.results25]
 refine ah ?_
 ((try refine Or.inl ?_);refine ⟨_,(sQ m s),.inl rfl,?_⟩;refine amC ?_)
 rw [hp]
 refine ah ?_
 refine aj amQ (fun h =>?_) (fun h =>?_)
 ·simp at h
 refine ah ?_
 ((try refine Or.inl ?_);refine ⟨_,(hA),amF,?_⟩;refine amC ?_)
 refine ah ?_
 (simp only [xec,simprocAttr];refine ⟨[_,_],⟨rfl,rfl,trivial⟩,rfl,Imp.eq ?_⟩)
 rfl
end Go.Proofs.YtkcelmnbfbehbaaGreat
