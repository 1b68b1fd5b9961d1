/- The reference's iteration of choices on the machine. Conditions: games that are whole, ratios in bounds. -/
import Derived.Test.YtnblieajjclipaaGreatRA4
set_option linter.all false
namespace Go.Proofs.YtnblieajjclipaaGreat
open Go Go.RowKit Am
def gmS (s:List (List Int)) (g:GmT) (num den:Int) (ml:List (List Bool)):SpG :=
 ⟨g.list.length,s.length,fun i r=>((g.ch.getD i []).getD r []).length,fun i r k=>toC (((g.ch.getD i []).getD r []).getD k []),fun i r k=>((g.list.length:Int)+1)*aW num den (((g.ch.getD i []).getD r []).getD k [])-1,fun i r=>(ml.getD i []).getD r false⟩
abbrev gv:Int:=100000000000000000
theorem Dp {m s:List (List Int)} {g:GmT} {num den:Int} (hB:GmB m s g num den 595000000000) (ml:List (List Bool)):EY (gmS s g num den ml) 50000000000000:=by
 refine ⟨fun i r k hi hr hk =>?_⟩
 have h1:=hB.to_ hi hr hk
 have h2:=hB.bd i r k hi hr hk
 have h3:=hB.full.le
 have h4:=yO (N:=(g.list.length:Int)+1) (show (0:Int)<=595000000000 by omega) h2 (by omega)
 rw [Int.mul_comm (aW num den (((g.ch.getD i []).getD r []).getD k []))] at h4
 refine ⟨h1.1,?_⟩
 show -50000000000000<=((g.list.length:Int)+1)*aW num den (((g.ch.getD i []).getD r []).getD k [])-1/\((g.list.length:Int)+1)*aW num den (((g.ch.getD i []).getD r []).getD k [])-1<=50000000000000
 omega
theorem RD (g:GmT) (b:Bool) (hg:g.list.length<=60) (c:List Int) {num den:Int} (h1:0<=den*c.getD 2 0) (h2:den*c.getD 2 0<=5000000000000) (h3:0<=num*c.getD 3 0) (h4:num*c.getD 3 0<=5000000000000):Does Tryz.prog 189 [gA g b,frA (den,num),four (c4 c)] (.imm (.int (((g.list.length:Int)+1)*aW num den c-1))):=by
 have hgc:aW num den c=den*c.getD 2 0-num*c.getD 3 0:=rfl
 have hb:=yO (G:=5000000000000) (w:=aW num den c) (N:=(g.list.length:Int)+1) (by omega) (by omega) (by omega)
 rw [Int.mul_comm (aW num den c)] at hb
 refine aF Tryz.func189 rfl Tryz.ntmps189 aQ (fun _ _=>by kernel_rfl) rfl (Nat.le_of_ble_eq_true rfl) ?_
 intro M0 w0
 rw [Tryz.results189]
 refine ah ?_
 ((try refine Or.inl ?_);refine ⟨_,(zJ c (num,den) h1 (by simp only;omega) h3 (by simp only;omega)),.inl rfl,?_⟩;refine amC ?_)
 refine ah ?_
 refine bJ ?_
 rfl
theorem Dz {m s:List (List Int)} {g:GmT} (hf:aU m s g) (b:Bool) {num den:Int} (hn:0<=num/\num<=5000000000) (hd:0<=den/\den<=5000000000) (ml:List (List Bool)) {i r:Nat} (hi:i<g.list.length) (hr:r<s.length) (k:Int) (hk : -1<=k/\k<((g.ch.getD i []).getD r []).length) (V:List Int) (hVl:V.length=g.list.length) (hVb:∀ j,j<g.list.length->0<=V.getD j 0/\V.getD j 0<=200000000000000000) :
  Does Tryz.prog 180 [gA g b,frA (den,num),.sl (.k 4 (((g.ch.getD i []).getD r []).map c4)),.int k,.sl (.ints V)] (.imm (.int (bK (gmS s g num den ml) gv (fun j=>V.getD j 0) i r k))):=by
 have hB:=xY hf hn hd
 have hcl:=hf.clen
 have hle:=hf.le
 have hok:=hf.c.row i r (by omega) hr
 have hrow4:=kQ hf.prob hok
 refine aF Tryz.func180 rfl Tryz.ntmps180 aQ (fun _ _=>by kernel_rfl) rfl (Nat.le_of_ble_eq_true rfl) ?_
 intro M0 w0
 rw [Tryz.results180]
 refine ah ?_
 refine aj amQ (fun hc =>?_) (fun hc =>?_)
 ·have hc:=of_decide_eq_true hc
  refine ah ?_
  refine bJ ?_
  unfold bK
  rw [if_pos hc]
 ·have hc:=of_decide_eq_false hc
  have hc:¬ k<0:=hc
  obtain ⟨j,rfl⟩:=Int.eq_ofNat_of_zero_le (Int.not_lt.1 hc)
  have hj:j<((g.ch.getD i []).getD r []).length:=by omega
  have hse:(((g.ch.getD i []).getD r []).map c4).getD j []=c4 (((g.ch.getD i []).getD r []).getD j []):=iw hj [] []
  have hml:(((g.ch.getD i []).getD r []).map c4).length=((g.ch.getD i []).getD r []).length:=by simp
  obtain ⟨t1,t2⟩:=hB.to_ hi hr hj
  obtain ⟨b1,b2⟩:=hB.bd i r j hi hr hj
  obtain ⟨t,u,x,y,hce,ht,hu,hx0,hx1,hy0,hy1⟩:=JV hok hj
  have m1:0<=den*(((g.ch.getD i []).getD r []).getD j []).getD 2 0:=by rw [hce];exact Int.mul_nonneg hd.1 hx0
  have m3:0<=num*(((g.ch.getD i []).getD r []).getD j []).getD 3 0:=by rw [hce];exact Int.mul_nonneg hn.1 hy0
  have m2':=Int.mul_le_mul hd.2 hx1 hx0 (by omega)
  have m4':=Int.mul_le_mul hn.2 hy1 hy0 (by omega)
  have n2:den*(((g.ch.getD i []).getD r []).getD j []).getD 2 0<=5000000000000:=by rw [hce];show den*x<=_;omega
  have n4:num*(((g.ch.getD i []).getD r []).getD j []).getD 3 0<=5000000000000:=by rw [hce];show num*y<=_;omega
  have hsc:=(Dp hB ml).el i r j hi hr hj
  have hW:(gmS s g num den ml).W i r j=((g.list.length:Int)+1)*aW num den (((g.ch.getD i []).getD r []).getD j [])-1:=rfl
  rw [hW] at hsc
  have e2:(c4 (((g.ch.getD i []).getD r []).getD j [])).getD 1 0=(((g.ch.getD i []).getD r []).getD j []).getD 1 0:=rfl
  have v1:0<=V.getD ((((g.ch.getD i []).getD r []).getD j []).getD 1 0).toNat 0/\V.getD ((((g.ch.getD i []).getD r []).getD j []).getD 1 0).toNat 0<=200000000000000000:=hVb _ t1
  refine ah ?_
  rw [hse,e2]
  ((try refine Or.inl ?_);refine ⟨_,(RD g b hle (((g.ch.getD i []).getD r []).getD j []) m1 n2 m3 n4),.inl rfl,?_⟩;refine amC ?_)
  refine ah ?_
  refine bJ ?_
  unfold bK
  rw [if_neg hc,Int.toNat_natCast]
  rfl
theorem KF (l:List Int) (hn:l.length<=1000):bP Tryz.prog 118 [.sl (.ints l)] [] [] (.lf (.own 0)) [.row 3 (.ints l)]:=by
 refine aZ Tryz.func118 rfl Tryz.ntmps118 aQ (fun _ _=>by kernel_rfl) rfl rfl rfl ?_
 intro M0 w0 S φ0
 rw [Tryz.results118]
 refine ah ?_
 (simp only [aC,aH];refine bf [0] rfl ⟨rfl,trivial⟩ rfl rfl rfl rfl rfl ?_;try rfl)
theorem Gl (a b:Int):Does Tryz.prog 93 [.int a,.int b] (.imm (.int (max a b))):=by
 refine aF Tryz.func93 rfl Tryz.ntmps93 aQ (fun _ _=>by kernel_rfl) rfl (Nat.le_of_ble_eq_true rfl) ?_
 intro M0 w0
 rw [Tryz.results93]
 refine ah ?_
 refine aj amQ (fun hc =>?_) (fun hc =>?_)
 ·have:=of_decide_eq_true hc
  refine ah ?_
  refine bJ ?_
  rw [Int.max_eq_left (by omega)]
 ·have:=of_decide_eq_false hc
  refine ah ?_
  refine bJ ?_
  rw [Int.max_eq_right (by omega)]
theorem Vp {n i:Nat} {f f':Nat->Int} {x:Int} (hi:i<n) (h1:f' i=x) (h2:∀ j,j≠i->f' j=f j):((List.range n).map f).set i x=(List.range n).map f':=by
 refine rU (by simp) fun j hj =>?_
 have hj:j<n:=by simpa using hj
 rw [wL _ _ _ _ (by simpa using hi),eP hj,eP hj]
 split
 ·rename_i e;subst e;exact h1.symm
 ·rename_i e;exact (h2 j e).symm
theorem DN {n:Nat} {f f':Nat->Int} (h:∀ j,j<n->f j=f' j):(List.range n).map f=(List.range n).map f':=List.map_congr_left fun j hj=>h j (List.mem_range.1 hj)
theorem AP {g:SpG} {K give:Int} (hok:EY g K) {V V':Nat->Int} (h:∀ i,i<g.n->V' i=V i) {i r:Nat} (hi:i<g.n) (hr:r<g.q) {k:Int} (hk:k<g.K i r):bK g give V' i r k=bK g give V i r k :=
 Int.le_antisymm (nR hok (fun j hj=>Int.le_of_eq (h j hj)) hi hr hk) (nR hok (fun j hj=>Int.le_of_eq (h j hj).symm) hi hr hk)
theorem SN (G:SpG) (give:Int) (ch:Nat->Nat->Int) (n:Nat):(List.range n).map (spB G give ch 0)=List.replicate n 0 :=
 rU (by simp) fun j hj=>by
  have hj:j<n:=by simpa using hj
  rw [eP hj]
  simp [hj,spB]
def chF (ch:List (List Int)) (i r:Nat):Int:=(ch.getD i []).getD r 0
structure Dim {α:Type} (n q:Nat) (xs:List (List α)):Prop where
 len:xs.length=n
 row:∀ i,i<n->(xs.getD i []).length=q
def Ir (G:SpG) (give:Int) (ch:Nat->Nat->Int) (k i j:Nat):Int:=if j<i then spB G give ch (k+1) j else spB G give ch k j
def uM (G:SpG) (give:Int) (ch:Nat->Nat->Int) (k i r j:Nat):Int:=if j<i then spB G give ch (k+1) j else if j=i then yS G give ch (spB G give ch k) i (spB G give ch k i) r else spB G give ch k j
theorem mix_0 (G:SpG) (give:Int) (ch:Nat->Nat->Int) (k:Nat):Ir G give ch k 0=spB G give ch k:=by
 funext j
 unfold Ir
 rw [if_neg (by omega)]
theorem acV (G:SpG) (give:Int) (ch:Nat->Nat->Int) (k i:Nat):uM G give ch k i 0=Ir G give ch k i:=by
 funext j
 unfold uM Ir
 split
 ·rfl
 ·split
  ·rename_i e;rw [e];rfl
  ·rfl
theorem acX (G:SpG) (give:Int) (ch:Nat->Nat->Int) (k i:Nat):uM G give ch k i G.q=Ir G give ch k (i+1):=by
 funext j
 unfold uM Ir
 by_cases h1:j<i
 ·rw [if_pos h1,if_pos (by omega)]
 ·rw [if_neg h1]
  by_cases h2:j=i
  ·rw [if_pos h2,if_pos (by omega),h2];rfl
  ·rw [if_neg h2,if_neg (by omega)]
theorem acW {G:SpG} {give:Int} {ch:Nat->Nat->Int} {k n:Nat}:(List.range n).map (Ir G give ch k n)=(List.range n).map (spB G give ch (k+1)):=DN fun j hj=>by unfold Ir;rw [if_pos hj]
set_option maxHeartbeats 2000000 in
theorem AA {m s:List (List Int)} {g:GmT} (hf:aU m s g) (b:Bool) {num den:Int} (hn:0<=num/\num<=5000000000) (hd:0<=den/\den<=5000000000) {ml:List (List Bool)} {ch:List (List Int)} (hml:Dim g.list.length s.length ml) (hch:Dim g.list.length s.length ch) (hC:SpC (gmS s g num den ml) (chF ch)) {V:Nat->Int} (hV:SpV (gmS s g num den ml) gv (chF ch) V) :
  bP Tryz.prog 179 [gA g b,frA (den,num),.sl (.bbo ml),.sl (.ii ch)] [] [] (.lf (.own 0)) [.row 3 (.ints ((List.range g.list.length).map V))]:=by
 have hB:=xY hf hn hd
 have hcl:=hf.clen
 have hle:=hf.le
 have hpl:=bI hf.prob
 have hok:=Dp hB ml
 generalize hG:gmS s g num den ml=G at hok hC hV
 have hGn:G.n=g.list.length:=by rw [← hG];rfl
 have hGq:G.q=s.length:=by rw [← hG];rfl
 have hgv:gv=100000000000000000:=rfl
 have hVb:∀ i,i<g.list.length->0<=V i/\V i<=200000000000000000:=fun i hi=>by
  have h1:=Int.mul_le_mul (show (G.n:Int)<=60 by omega) (show (50000000000000:Int)<=50000000000000 by omega) (by omega) (by omega)
  have h3:=hV.sup.pos i (by omega)
  rcases hV.gap (show (0:Int)<=50000000000000 by omega) (Ja hok hC) (fun v c _ ⟨_,_,_,_,e⟩=>e) i (by omega) with h2 | ⟨_,h2⟩<;>omega
 have hBb:∀ k i,i<g.list.length->0<=spB G gv (chF ch) k i/\spB G gv (chF ch) k i<=200000000000000000:=fun k i hi=>by
  have h1:=Ov hok hC hV k i (by omega)
  have h2:=hVb i hi
  omega
 refine aZ Tryz.func179 rfl Tryz.ntmps179 aQ (fun _ _=>by kernel_rfl) rfl rfl rfl ?_
 intro M0 w0 S φ0
 rw [Tryz.results179]
 refine ah ?_
 refine aA (α:=Nat) (fun k=>[(10,true,.int k)]) [2,3,4,5,9] (fun k=>[.box [.b (.sl (.k 2 g.list)),.b (.sl (.kii 4 (ch4 g.ch))),.b (.val (.bool b))],.box [.b (.val (.int .i64 den)),.b (.val (.int .i64 num))],.row 3 (.ints ((List.range g.list.length).map (spB G gv (chF ch) k)))]) (fun k=>k<=g.list.length+1) (fun k=>g.list.length+1-k) 0 (by exact dw (by rw [SN])) (Nat.zero_le _) fun k hk =>?_
 have hbl:((List.range g.list.length).map (spB G gv (chF ch) k)).length=g.list.length:=by simp
 simp only [xr,simprocAttr]
 refine ah ?_
 refine aj amQ (fun hc =>?_) (fun hc =>?_)
 ·have hc:=of_decide_eq_true hc
  refine ah ?_
  (refine .inr (.inl (gJ (KF ((List.range g.list.length).map (spB G gv (chF ch) k)) (by omega)) rfl rfl rfl rfl rfl rfl rfl ?_));refine amC ?_)
  refine ah ?_
  refine aA (α:=Nat) (fun i=>[(12,true,.int i)]) [2,3,4,5,9,10,11] (fun i=>[.box [.b (.sl (.k 2 g.list)),.b (.sl (.kii 4 (ch4 g.ch))),.b (.val (.bool b))],.box [.b (.val (.int .i64 den)),.b (.val (.int .i64 num))],.row 3 (.ints ((List.range g.list.length).map (spB G gv (chF ch) k))),.row 3 (.ints ((List.range g.list.length).map (Ir G gv (chF ch) k i)))]) (fun i=>i<=g.list.length) (fun i=>g.list.length-i) 0 (by exact dw (by rw [mix_0])) (Nat.zero_le _) fun i hi =>?_
  have hch4:(ch4 g.ch).length=g.ch.length:=by simp [ch4]
  simp only [xr,simprocAttr]
  refine ah ?_
  refine aj amQ (fun hd1 =>?_) (fun hd1 =>?_)
  ·have hd1:=of_decide_eq_true hd1
   have hi':i<g.list.length:=by omega
   have h4:=lJ (show i<g.ch.length by omega)
   have hrl:=hf.c.len i (by omega)
   have h4l:((ch4 g.ch).getD i []).length=(g.ch.getD i []).length:=by rw [h4,List.length_map]
   refine ah ?_
   refine aA (α:=Nat) (fun r=>[(13,true,.int r)]) [2,3,4,5,9,10,11,12] (fun r=>[.box [.b (.sl (.k 2 g.list)),.b (.sl (.kii 4 (ch4 g.ch))),.b (.val (.bool b))],.box [.b (.val (.int .i64 den)),.b (.val (.int .i64 num))],.row 3 (.ints ((List.range g.list.length).map (spB G gv (chF ch) k))),.row 3 (.ints ((List.range g.list.length).map (uM G gv (chF ch) k i r)))]) (fun r=>r<=s.length) (fun r=>s.length-r) 0 (by exact dw (by rw [acV])) (Nat.zero_le _) fun r hr =>?_
   have hxl:((List.range g.list.length).map (uM G gv (chF ch) k i r)).length=g.list.length:=by simp
   simp only [xr,simprocAttr]
   refine ah ?_
   refine aj amQ (fun he =>?_) (fun he =>?_)
   ·have he:=of_decide_eq_true he
    have hr':r<s.length:=by omega
    have hm1:=hml.len
    have hm2:=hml.row i hi'
    have hc1:=hch.len
    have hc2:=hch.row i hi'
    have h42:=lZ (show i<g.ch.length by omega) (show r<(g.ch.getD i []).length by omega)
    have hCl:=hC.lt i r (by omega) (by omega)
    have hCg:=hC.ge i r (by omega) (by omega)
    have hKr:G.K i r=((g.ch.getD i []).getD r []).length:=by rw [← hG];rfl
    have hmay:G.may i r=(ml.getD i []).getD r false:=by rw [← hG];rfl
    have hat:((List.range g.list.length).map (uM G gv (chF ch) k i r)).getD i 0=yS G gv (chF ch) (spB G gv (chF ch) k) i (spB G gv (chF ch) k i) r:=by
     rw [eP hi']
     unfold uM
     rw [if_neg (by omega),if_pos rfl]
    refine ah ?_
    refine aj amQ (fun hy =>?_) (fun hy =>?_)
    ·have hy:G.may i r=true:=by rw [hmay];exact hy
     have hv:=Dz hf b hn hd ml hi' hr' ((ch.getD i []).getD r 0) ⟨hCg,by rw [← hKr];exact hCl⟩ ((List.range g.list.length).map (spB G gv (chF ch) k)) hbl (fun j hj=>by rw [eP hj];exact hBb k j hj)
     rw [hG,← h42] at hv
     have hval:bK G gv (fun j=>((List.range g.list.length).map (spB G gv (chF ch) k)).getD j 0) i r ((ch.getD i []).getD r 0)=bK G gv (spB G gv (chF ch) k) i r (chF ch i r):=AP hok (fun j hj=>eP (by omega)) (by omega) (by omega) hCl
     have hstep:yS G gv (chF ch) (spB G gv (chF ch) k) i (spB G gv (chF ch) k i) (r+1)=max (yS G gv (chF ch) (spB G gv (chF ch) k) i (spB G gv (chF ch) k i) r) (bK G gv (spB G gv (chF ch) k) i r (chF ch i r)):=by
      show (if G.may i r=true then _ else _)=_
      rw [if_pos hy]
     refine ah ?_
     (refine amB ?_;refine iD [3] 27 [4,5,26] (by kernel_rfl) (by kernel_rfl) (by kernel_rfl) (by kernel_rfl) (by kernel_rfl) ?_;refine amM ?_)
     ((try refine Or.inl ?_);refine ⟨_,(hv),.inl rfl,?_⟩;refine amC ?_)
     ((try refine Or.inl ?_);refine ⟨_,(Gl _ _),.inl rfl,?_⟩;refine amC ?_)
     refine amB ?_
     have hset:((List.range g.list.length).map (uM G gv (chF ch) k i r)).set i (max (((List.range g.list.length).map (uM G gv (chF ch) k i r)).getD i 0) (bK G gv (fun j=>((List.range g.list.length).map (spB G gv (chF ch) k)).getD j 0) i r ((ch.getD i []).getD r 0)))=(List.range g.list.length).map (uM G gv (chF ch) k i (r+1)):=by
      rw [hat,hval,← hstep]
      refine Vp hi' ?_ fun j hj =>?_
      ·unfold uM
       rw [if_neg (by omega),if_pos rfl]
      ·unfold uM
       rw [if_neg hj,if_neg hj]
     rw [hset]
     refine ah ?_
     refine ⟨r+1,by omega,by omega,.inl ?_⟩
     exact dJ
    ·have hy:¬ G.may i r=true:=by
      rw [hmay]
      intro h
      rw [h] at hy
      cases hy
     have hstep:uM G gv (chF ch) k i (r+1)=uM G gv (chF ch) k i r:=by
      funext j
      unfold uM
      have:yS G gv (chF ch) (spB G gv (chF ch) k) i (spB G gv (chF ch) k i) (r+1)=yS G gv (chF ch) (spB G gv (chF ch) k) i (spB G gv (chF ch) k i) r:=if_neg hy
      rw [this]
     refine ah ?_
     refine ⟨r+1,by omega,by omega,.inl ?_⟩
     exact dw (by rw [hstep])
   ·have he:=of_decide_eq_false he
    have hr':r=G.q:=by omega
    subst hr'
    refine ah ?_
    refine ⟨i+1,by omega,by omega,.inl ?_⟩
    exact dw (by rw [← acX])
  ·have hd1:=of_decide_eq_false hd1
   have hi':i=g.list.length:=by omega
   subst hi'
   rw [acW]
   refine L9 ?_
   (refine aK 2 rfl ?_;simp only [xz,simprocAttr])
   (refine lH 2 3 rfl rfl (by decide) rfl rfl ?_;simp only [xm,simprocAttr])
   refine ah ?_
   refine ⟨k+1,by omega,by omega,.inr ⟨3,Nat.le_of_ble_eq_true rfl,aT ?_ rfl rfl rfl⟩⟩
   exact dJ
 ·have hc:=of_decide_eq_false hc
  have hk':k=G.n+1:=by omega
  subst hk'
  rw [DN fun j hj=>YL hok hC hV j (by omega)]
  refine ah ?_
  (simp only [aC,aH];refine bf [2] rfl ⟨rfl,trivial⟩ rfl rfl rfl rfl rfl ?_;try rfl)
theorem vC.congr {n:Nat} {A A':Nat->Nat->Int->Prop} {F F':Nat->Int->Prop} {V:Nat->Int} (h:vC n A F V) (hA:∀ v t w,v<n->(A v t w↔A' v t w)) (hF:∀ v c,v<n->(F v c↔F' v c)):vC n A' F' V :=
 ⟨⟨h.sup.pos,fun v t w hv ha=>h.sup.arc v t w hv ((hA v t w hv).2 ha),fun v c hv hc=>h.sup.flr v c hv ((hF v c hv).2 hc)⟩,fun U hU=>h.le U ⟨hU.pos,fun v t w hv ha=>hU.arc v t w hv ((hA v t w hv).1 ha),fun v c hv hc=>hU.flr v c hv ((hF v c hv).1 hc)⟩⟩
theorem Ac {g:SpG} {give:Int} {ch ch':Nat->Nat->Int} {V:Nat->Int} (h:SpV g give ch V) (e:∀ i r,i<g.n->r<g.q->ch' i r=ch i r):SpV g give ch' V:=by
 refine vC.congr h (fun v t w hv =>?_) fun v c hv =>?_
 ·constructor
  ·rintro ⟨r,hr,h1,h2,h3,h4⟩
   exact ⟨r,hr,h1,by rw [e v r hv hr];exact h2,by rw [e v r hv hr];exact h3,by rw [e v r hv hr];exact h4⟩
  ·rintro ⟨r,hr,h1,h2,h3,h4⟩
   rw [e v r hv hr] at h2 h3 h4
   exact ⟨r,hr,h1,h2,h3,h4⟩
 ·constructor
  ·rintro ⟨r,hr,h1,h2,h3⟩
   exact ⟨r,hr,h1,by rw [e v r hv hr];exact h2,h3⟩
  ·rintro ⟨r,hr,h1,h2,h3⟩
   rw [e v r hv hr] at h2
   exact ⟨r,hr,h1,h2,h3⟩
theorem Aa {g:SpG} {give:Int} {ch ch':Nat->Nat->Int} {V:Nat->Int} {i r:Nat} (e:ch' i r=ch i r):spI g give V ch' i r=spI g give V ch i r:=by
 unfold spI
 rw [e]
theorem SpX.congr {g:SpG} {give:Int} {k:Nat} {ch:Nat->Nat->Int} {W:Nat->Int} (h:SpX g give k ch W):∀ {ch':Nat->Nat->Int},(∀ i r,i<g.n->r<g.q->ch' i r=ch i r)->SpX g give k ch' W:=by
 induction h with
 | stop h1 h2=>exact fun e => .stop (Ac h1 e) fun i r hi hr=>by rw [Aa (e i r hi hr),e i r hi hr];exact h2 i r hi hr
 | step h1 h2 h3 ih =>
  intro ch' e
  obtain ⟨i,r,hi,hr,hne⟩:=h2
  exact .step (Ac h1 e) ⟨i,r,hi,hr,by rw [Aa (e i r hi hr),e i r hi hr];exact hne⟩ (ih fun i r hi hr=>Aa (e i r hi hr))
theorem SpC.congr {g:SpG} {ch ch':Nat->Nat->Int} (h:SpC g ch) (e:∀ i r,i<g.n->r<g.q->ch' i r=ch i r):SpC g ch':=⟨fun i r hi hr=>by rw [e i r hi hr];exact h.lt i r hi hr,fun i r hi hr=>by rw [e i r hi hr];exact h.ge i r hi hr⟩
theorem SpX.val {g:SpG} {give:Int} {k:Nat} {ch:Nat->Nat->Int} {W:Nat->Int} (h:SpX g give k ch W):∃ V,SpV g give ch V/\(((∀ i r,i<g.n->r<g.q->spI g give V ch i r=ch i r)/\V=W)\/((∃ i r,i<g.n/\r<g.q/\spI g give V ch i r≠ch i r)/\∃ j,k=j+1/\SpX g give j (spI g give V ch) W)):=by
 cases h with
 | stop h1 h2=>exact ⟨W,h1,.inl ⟨h2,rfl⟩⟩
 | step h1 h2 h3=>exact ⟨_,h1,.inr ⟨h2,_,rfl,h3⟩⟩
theorem KC {m s:List (List Int)} {g:GmT} (hf:aU m s g) (b:Bool):bP Tryz.prog 89 [gA g b] [] [] (.lf (.own 0)) [.row 186 (.bbo (List.replicate g.list.length (List.replicate s.length true)))]:=by
 have hcl:=hf.clen
 have hle:=hf.le
 have hpl:=bI hf.prob
 have hch4:(ch4 g.ch).length=g.ch.length:=by simp [ch4]
 refine aZ Tryz.func89 rfl Tryz.ntmps89 aQ (fun _ _=>by kernel_rfl) rfl rfl rfl ?_
 intro M0 w0 S φ0
 rw [Tryz.results89]
 refine ah ?_
 refine aA (α:=Nat) (fun i=>[(4,true,.int i)]) [1,3] (fun i=>[.box [.b (.sl (.k 2 g.list)),.b (.sl (.kii 4 (ch4 g.ch))),.b (.val (.bool b))],.row 186 (.bbo (List.replicate i (List.replicate s.length true)))]) (fun i=>i<=g.list.length) (fun i=>g.list.length-i) 0 (by exact dJ) (Nat.zero_le _) fun i hi =>?_
 have hil:(List.replicate i (List.replicate s.length true)).length=i:=by simp
 simp only [xr,simprocAttr]
 refine ah ?_
 refine aj amQ (fun hc =>?_) (fun hc =>?_)
 ·have hc:=of_decide_eq_true hc
  have hi':i<g.list.length:=by omega
  have h4:=lJ (show i<g.ch.length by omega)
  have hrl:=hf.c.len i (by omega)
  have h4l:((ch4 g.ch).getD i []).length=(g.ch.getD i []).length:=by rw [h4,List.length_map]
  refine ah ?_
  refine aA (α:=Nat) (fun r=>[(6,true,.int r)]) [1,3,4,5] (fun r=>[.box [.b (.sl (.k 2 g.list)),.b (.sl (.kii 4 (ch4 g.ch))),.b (.val (.bool b))],.row 186 (.bbo (List.replicate i (List.replicate s.length true))),.row 4 (.bo (List.replicate r true))]) (fun r=>r<=s.length) (fun r=>s.length-r) 0 (by exact dJ) (Nat.zero_le _) fun r hr =>?_
  have hrl2:(List.replicate r true).length=r:=by simp
  simp only [xr,simprocAttr]
  refine ah ?_
  refine aj amQ (fun hd =>?_) (fun hd =>?_)
  ·have hd:=of_decide_eq_true hd
   refine ah ?_
   refine ⟨r+1,by omega,by omega,.inl ?_⟩
   exact dw (by rw [List.replicate_succ'])
  ·have hd:=of_decide_eq_false hd
   have hr':r=s.length:=by omega
   subst hr'
   (refine aK 2 rfl ?_;simp only [xz,simprocAttr])
   refine ah ?_
   refine ⟨i+1,by omega,by omega,.inr ⟨2,Nat.le_of_ble_eq_true rfl,aT ?_ rfl rfl rfl⟩⟩
   exact dw (by rw [List.replicate_succ' (n:=i)];rfl)
 ·have hc:=of_decide_eq_false hc
  have hi':i=g.list.length:=by omega
  subst hi'
  refine ah ?_
  (simp only [aC,aH];refine bf [1] rfl ⟨rfl,trivial⟩ rfl rfl rfl rfl rfl ?_;try rfl)
abbrev QW (xs:List (List Int)):Ob := .tree [26,3] (.ii xs)
theorem Pv {α:Type} (n q:Nat) (x:α):Dim n q (List.replicate n (List.replicate q x)):=⟨by simp,fun i hi=>by simp [hi]⟩
theorem WV (c:List (List Int)) (i u:Nat) (x:List Int) (hi:i<c.length):(c.set i x).getD u []=if u=i then x else c.getD u []:=by
 simp only [List.getD_eq_getElem?_getD,List.getElem?_set]
 by_cases e:i=u
 ·subst e;simp [hi]
 ·rw [if_neg e,if_neg fun e2=>e e2.symm]
def Zi (G:SpG) (V:Nat->Int) (ch:Nat->Nat->Int) (n q:Nat):Prop:=∃ i r,i<n/\r<q/\spI G gv V ch i r≠ch i r
set_option maxHeartbeats 4000000 in
theorem EO {m s:List (List Int)} {g:GmT} (hf:aU m s g) (b:Bool) {num den:Int} (hn:0<=num/\num<=5000000000) (hd:0<=den/\den<=5000000000) {ml:List (List Bool)} (hml:Dim g.list.length s.length ml) {ks:Nat} {W:Nat->Int} (hX:SpX (gmS s g num den ml) gv ks (fun _ _ => -1) W) :
  bP Tryz.prog 149 [gA g b,frA (den,num),.sl (.bbo ml)] [] [] (.lf (.own 0)) [.row 3 (.ints ((List.range g.list.length).map W))]:=by
 have hB:=xY hf hn hd
 have hcl:=hf.clen
 have hle:=hf.le
 have hpl:=bI hf.prob
 have hok:=Dp hB ml
 have hch4:(ch4 g.ch).length=g.ch.length:=by simp [ch4]
 have hgv:gv=100000000000000000:=rfl
 generalize hG:gmS s g num den ml=G at hok hX
 have hGn:G.n=g.list.length:=by rw [← hG];rfl
 have hGq:G.q=s.length:=by rw [← hG];rfl
 have hGK:∀ i r,G.K i r=((g.ch.getD i []).getD r []).length:=fun i r=>by rw [← hG];rfl
 refine aZ Tryz.func149 rfl Tryz.ntmps149 aQ (fun _ _=>by kernel_rfl) rfl rfl rfl ?_
 intro M0 w0 S φ0
 rw [Tryz.results149]
 refine ah ?_
 (refine tV 2 3 [] rfl rfl rfl ?_;simp only [xu,simprocAttr])
 refine aA (α:=Nat) (fun i=>[(8,true,.int i)]) [2,3,4,7] (fun i=>[.box [.b (.sl (.k 2 g.list)),.b (.sl (.kii 4 (ch4 g.ch))),.b (.val (.bool b))],.box [.b (.val (.int .i64 den)),.b (.val (.int .i64 num))],QW (List.replicate i (List.replicate s.length (-1)))]) (fun i=>i<=g.list.length) (fun i=>g.list.length-i) 0 (by exact dJ) (Nat.zero_le _) fun i hi =>?_
 have hil:(List.replicate i (List.replicate s.length (-1:Int))).length=i:=by simp
 simp only [xr,simprocAttr]
 refine ah ?_
 refine aj amQ (fun hc =>?_) (fun hc =>?_)
 ·have hc:=of_decide_eq_true hc
  have hi':i<g.list.length:=by omega
  have h4:=lJ (show i<g.ch.length by omega)
  have hrl:=hf.c.len i (by omega)
  have h4l:((ch4 g.ch).getD i []).length=(g.ch.getD i []).length:=by rw [h4,List.length_map]
  refine ah ?_
  refine aA (α:=Nat) (fun r=>[(10,true,.int r)]) [2,3,4,7,8,9] (fun r=>[.box [.b (.sl (.k 2 g.list)),.b (.sl (.kii 4 (ch4 g.ch))),.b (.val (.bool b))],.box [.b (.val (.int .i64 den)),.b (.val (.int .i64 num))],QW (List.replicate i (List.replicate s.length (-1))),.row 3 (.ints (List.replicate r (-1)))]) (fun r=>r<=s.length) (fun r=>s.length-r) 0 (by exact dJ) (Nat.zero_le _) fun r hr =>?_
  have hrl2:(List.replicate r (-1:Int)).length=r:=by simp
  simp only [xr,simprocAttr]
  refine ah ?_
  refine aj amQ (fun hd1 =>?_) (fun hd1 =>?_)
  ·have hd1:=of_decide_eq_true hd1
   refine ah ?_
   refine ⟨r+1,by omega,by omega,.inl ?_⟩
   exact dw (by rw [List.replicate_succ'])
  ·have hd1:=of_decide_eq_false hd1
   have hr':r=s.length:=by omega
   subst hr'
   refine ah ?_
   refine ⟨i+1,by omega,by omega,.inr ⟨3,Nat.le_of_ble_eq_true rfl,aT ?_ rfl rfl rfl⟩⟩
   exact dw (by rw [List.replicate_succ' (n:=i)];rfl)
 ·have hc:=of_decide_eq_false hc
  have hi':i=g.list.length:=by omega
  subst hi'
  clear hc hi
  have hch0:∀ i r,i<G.n->r<G.q->chF (List.replicate g.list.length (List.replicate s.length (-1))) i r = -1:=fun i r hi hr=>by
   unfold chF
   simp [show i<g.list.length by omega,show r<s.length by omega]
  have hC0:SpC G (chF (List.replicate g.list.length (List.replicate s.length (-1)))):=⟨fun i r hi hr=>by rw [hch0 i r hi hr];omega,fun i r hi hr=>by rw [hch0 i r hi hr];omega⟩
  refine ah ?_
  refine aA (α:=List (List Int)×Bool×Nat) (fun a=>[(11,true,.bool a.2.1)]) [2,3,4,7] (fun a=>[.box [.b (.sl (.k 2 g.list)),.b (.sl (.kii 4 (ch4 g.ch))),.b (.val (.bool b))],.box [.b (.val (.int .i64 den)),.b (.val (.int .i64 num))],QW a.1]) (fun a=>Dim g.list.length s.length a.1/\SpC G (chF a.1)/\(a.2.1=true->SpX G gv a.2.2 (chF a.1) W)/\(a.2.1=false->SpV G gv (chF a.1) W)) (fun a=>cond a.2.1 (a.2.2+1) 0) (List.replicate g.list.length (List.replicate s.length (-1)),true,ks) (by exact dJ) ⟨Pv _ _ _,hC0,fun _=>hX.congr hch0,fun h=>(by cases h)⟩ fun a ha =>?_
  obtain ⟨ch,fl,j⟩:=a
  obtain ⟨hD,hC,hx1,hx2⟩:=ha
  simp only at hD hC hx1 hx2 ⊢
  simp only [xr,simprocAttr]
  refine ah ?_
  cases fl
  ·refine aj amQ (fun h0 =>?_) (fun h0 =>?_)
   ·cases h0
   ·have hV:=hx2 rfl
    rw [← hG] at hC hV
    refine ah ?_
    (refine .inr (.inl (gJ (AA hf b hn hd hml hD hC hV) rfl rfl rfl rfl rfl rfl rfl ?_));refine amC ?_)
    refine ah ?_
    (simp only [aC,aH];refine bf [3] rfl ⟨rfl,trivial⟩ rfl rfl rfl rfl rfl ?_;try rfl)
  refine aj amQ (fun h0 =>?_) (fun h0=>by cases h0)
  obtain ⟨V,hV,hcase⟩:=(hx1 rfl).val
  have hC':=hC
  have hV':=hV
  rw [← hG] at hC' hV'
  refine ah ?_
  (refine .inr (.inl (gJ (AA hf b hn hd hml hD hC' hV') rfl rfl rfl rfl rfl rfl rfl ?_));refine amC ?_)
  (refine aK 3 rfl ?_;simp only [xz,simprocAttr])
  have hVL:((List.range g.list.length).map V).length=g.list.length:=by simp
  have hVb:∀ i,i<g.list.length->0<=V i/\V i<=200000000000000000:=fun i hi=>by
   have h1:=Int.mul_le_mul (show (G.n:Int)<=60 by omega) (show (50000000000000:Int)<=50000000000000 by omega) (by omega) (by omega)
   have h3:=hV.sup.pos i (by omega)
   rcases hV.gap (show (0:Int)<=50000000000000 by omega) (Ja hok hC) (fun v c _ ⟨_,_,_,_,e⟩=>e) i (by omega) with h2 | ⟨_,h2⟩<;>omega
  have hval:∀ i r (k:Int),i<g.list.length->r<s.length -> -1<=k->k<((g.ch.getD i []).getD r []).length->Does Tryz.prog 180 [gA g b,frA (den,num),.sl (.k 4 (((ch4 g.ch).getD i []).getD r [])),.int k,.sl (.ints ((List.range g.list.length).map V))] (.imm (.int (bK G gv V i r k))):=fun i r k hi hr h1 h2=>by
   have hv:=Dz hf b hn hd ml hi hr k ⟨h1,h2⟩ ((List.range g.list.length).map V) hVL (fun j hj=>by rw [eP hj];exact hVb j hj)
   rw [hG,AP hok (V:=V) (fun j hj=>eP (by omega)) (by omega) (by omega) (by rw [hGK];exact h2),← lZ (show i<g.ch.length by omega) (by rw [hf.c.len i (by omega)];exact hr)] at hv
   exact hv
  have hDl:=hD.len
  refine ah ?_
  refine aA (α:=Nat×List (List Int)×Bool) (fun a=>[(13,true,.int a.1),(11,true,.bool a.2.2)]) [2,3,4,7,12] (fun a=>[.box [.b (.sl (.k 2 g.list)),.b (.sl (.kii 4 (ch4 g.ch))),.b (.val (.bool b))],.box [.b (.val (.int .i64 den)),.b (.val (.int .i64 num))],QW a.2.1,.gone]) (fun a=>a.1<=g.list.length/\Dim g.list.length s.length a.2.1/\(∀ i' r',i'<a.1->r'<s.length->chF a.2.1 i' r'=spI G gv V (chF ch) i' r')/\(∀ i',a.1<=i'->a.2.1.getD i' []=ch.getD i' [])/\(a.2.2=false->∀ i' r',i'<a.1->r'<s.length->spI G gv V (chF ch) i' r'=chF ch i' r')/\(a.2.2=true->Zi G V (chF ch) g.list.length s.length)) (fun a=>g.list.length-a.1) (0,ch,false) (by exact dJ) ⟨Nat.zero_le _,hD,fun i' r' h=>absurd h (Nat.not_lt_zero i'),fun _ _=>rfl,fun _ i' r' h=>absurd h (Nat.not_lt_zero i'),fun h=>(by cases h)⟩ fun a ha =>?_
  obtain ⟨i,c,fl⟩:=a
  obtain ⟨hi,hDc,hc1,hc2,hf1,hf2⟩:=ha
  have hcl2:=hDc.len
  simp only at hi hDc hc1 hc2 hf1 hf2 hcl2 ⊢
  simp only [xr,simprocAttr]
  refine ah ?_
  refine aj amQ (fun hd2 =>?_) (fun hd2 =>?_)
  ·have hd2:=of_decide_eq_true hd2
   have hi':i<g.list.length:=by omega
   have h4:=lJ (show i<g.ch.length by omega)
   have hrl:=hf.c.len i (by omega)
   have h4l:((ch4 g.ch).getD i []).length=(g.ch.getD i []).length:=by rw [h4,List.length_map]
   have hcL:(Cn.ii c).len=g.list.length:=hcl2
   have hrow0:=hDc.row i hi'
   have hci:=hc2 i (Nat.le_refl _)
   refine ah ?_
   (refine kH 2 (i) rfl amT ?_;simp only [xr,simprocAttr])
   refine aA (α:=Nat×List Int×Bool) (fun a=>[(14,true,.int a.1),(11,true,.bool a.2.2)]) [2,3,4,7,12,13] (fun a=>[.box [.b (.sl (.k 2 g.list)),.b (.sl (.kii 4 (ch4 g.ch))),.b (.val (.bool b))],.box [.b (.val (.int .i64 den)),.b (.val (.int .i64 num))],.hole 26 [3] (.ii c) i (.own 4),.gone,.row 3 (.ints a.2.1)]) (fun a=>a.1<=s.length/\a.2.1.length=s.length/\(∀ r',r'<a.1->a.2.1.getD r' 0=spI G gv V (chF ch) i r')/\(∀ r',a.1<=r'->a.2.1.getD r' 0=chF ch i r')/\(a.2.2=false->(∀ i' r',i'<i->r'<s.length->spI G gv V (chF ch) i' r'=chF ch i' r')/\∀ r',r'<a.1->spI G gv V (chF ch) i r'=chF ch i r')/\(a.2.2=true->Zi G V (chF ch) g.list.length s.length)) (fun a=>s.length-a.1) (0,c.getD i [],fl) (by exact dJ) ⟨Nat.zero_le _,hrow0,fun r' h=>absurd h (Nat.not_lt_zero r'),fun r' _=>by show (c.getD i []).getD r' 0=_;rw [hci];rfl,fun h=>⟨hf1 h,fun r' h=>absurd h (Nat.not_lt_zero r')⟩,hf2⟩ fun a ha =>?_
   obtain ⟨r,row,fl2⟩:=a
   obtain ⟨hr,hrl2,hr1,hr2,hg1,hg2⟩:=ha
   simp only at hr hrl2 hr1 hr2 hg1 hg2 ⊢
   simp only [xr,simprocAttr]
   refine ah ?_
   refine aj amQ (fun he =>?_) (fun he =>?_)
   ·have he:=of_decide_eq_true he
    have hr':r<s.length:=by omega
    have h42:=lZ (show i<g.ch.length by omega) (show r<(g.ch.getD i []).length by omega)
    have h42l:(((ch4 g.ch).getD i []).getD r []).length=((g.ch.getD i []).getD r []).length:=by rw [h42,List.length_map]
    have hrow4:=kQ hf.prob (hf.c.row i r (by omega) hr')
    have hcr:=hr2 r (Nat.le_refl _)
    have hset0:row.set r (spK G gv V i r (chF ch i r) 0)=row:=LH row (by omega) hcr
    refine ah ?_
    refine aA (α:=Nat×Bool) (fun a=>[(15,true,.int a.1),(11,true,.bool a.2)]) [2,3,4,7,12,13,14] (fun a=>[.box [.b (.sl (.k 2 g.list)),.b (.sl (.kii 4 (ch4 g.ch))),.b (.val (.bool b))],.box [.b (.val (.int .i64 den)),.b (.val (.int .i64 num))],.hole 26 [3] (.ii c) i (.own 4),.gone,.row 3 (.ints (row.set r (spK G gv V i r (chF ch i r) a.1)))]) (fun a=>a.1<=((g.ch.getD i []).getD r []).length/\(a.2=false->(∀ i' r',i'<i->r'<s.length->spI G gv V (chF ch) i' r'=chF ch i' r')/\(∀ r',r'<r->spI G gv V (chF ch) i r'=chF ch i r')/\spK G gv V i r (chF ch i r) a.1=chF ch i r)/\(a.2=true->Zi G V (chF ch) g.list.length s.length\/spK G gv V i r (chF ch i r) a.1≠chF ch i r)) (fun a=>((g.ch.getD i []).getD r []).length-a.1) (0,fl2) (by exact dw (by rw [hset0])) ⟨Nat.zero_le _,fun h=>⟨(hg1 h).1,(hg1 h).2,rfl⟩,fun h => .inl (hg2 h)⟩ fun a ha =>?_
    obtain ⟨k,fl3⟩:=a
    obtain ⟨hk,hk1,hk2⟩:=ha
    simp only at hk hk1 hk2 ⊢
    have hsl:(row.set r (spK G gv V i r (chF ch i r) k)).length=s.length:=by rw [List.length_set,hrl2]
    simp only [xr,simprocAttr]
    refine ah ?_
    refine aj amQ (fun hh =>?_) (fun hh =>?_)
    ·have hh:=of_decide_eq_true hh
     have hk':k<((g.ch.getD i []).getD r []).length:=by omega
     have hat:(row.set r (spK G gv V i r (chF ch i r) k)).getD r 0=spK G gv V i r (chF ch i r) k:=by rw [wL _ _ _ _ (by omega),if_pos rfl]
     have hKb : -1<=spK G gv V i r (chF ch i r) k/\spK G gv V i r (chF ch i r) k<((g.ch.getD i []).getD r []).length:=by
      have q1:=hC.lt i r (by omega) (by omega)
      have q2:=hC.ge i r (by omega) (by omega)
      rw [hGK] at q1
      rcases (wM G gv V i r (chF ch i r) k).1 with e | ⟨e1,e2,_⟩
      ·rw [e];exact ⟨q2,q1⟩
      ·omega
     have v1:=hval i r (k:Int) hi' hr' (by omega) (by omega)
     have v2:=hval i r (spK G gv V i r (chF ch i r) k) hi' hr' hKb.1 hKb.2
     rw [← hat] at v2
     refine ah ?_
     ((try refine Or.inl ?_);refine ⟨_,(v1),.inl rfl,?_⟩;refine amC ?_)
     ((try refine Or.inl ?_);refine ⟨_,(v2),.inl rfl,?_⟩;refine amC ?_)
     refine ah ?_
     refine aj amQ (fun hw =>?_) (fun hw =>?_)
     ·have hw:=of_decide_eq_true hw
      rw [hat] at hw
      have hnext:spK G gv V i r (chF ch i r) (k+1)=(k:Int):=if_pos hw
      have hne:spK G gv V i r (chF ch i r) (k+1)≠chF ch i r:=fun e=>by
       have q1:=(wM G gv V i r (chF ch i r) k).2.1
       rw [hnext] at e
       rw [e] at hw
       omega
      refine ah ?_
      refine ⟨(k+1,true),hk',fun h=>(by cases h),fun _ => .inr hne,by show ((g.ch.getD i []).getD r []).length-(k+1)<((g.ch.getD i []).getD r []).length-k;omega,.inr ⟨5,Nat.le_of_ble_eq_true rfl,aT ?_ rfl rfl rfl⟩⟩
      exact dw (by show [_,_,_,_,Ob.row _ (Cn.ints (row.set r (spK G gv V i r (chF ch i r) (k+1))))]=_;rw [hnext,set_set];rfl)
     ·have hw:=of_decide_eq_false hw
      rw [hat] at hw
      have hnext:spK G gv V i r (chF ch i r) (k+1)=spK G gv V i r (chF ch i r) k:=if_neg hw
      refine ah ?_
      refine ⟨(k+1,fl3),hk',fun h =>?_,fun h =>?_,by show ((g.ch.getD i []).getD r []).length-(k+1)<((g.ch.getD i []).getD r []).length-k;omega,.inr ⟨5,Nat.le_of_ble_eq_true rfl,aT ?_ rfl rfl rfl⟩⟩
      ·show _/\_/\spK G gv V i r (chF ch i r) (k+1)=_
       rw [hnext]
       exact hk1 h
      ·show _\/spK G gv V i r (chF ch i r) (k+1)≠_
       rw [hnext]
       exact hk2 h
      ·exact dw (by show [_,_,_,_,Ob.row _ (Cn.ints (row.set r (spK G gv V i r (chF ch i r) (k+1))))]=_;rw [hnext];rfl)
    ·have hh:=of_decide_eq_false hh
     have hk':k=((g.ch.getD i []).getD r []).length:=by omega
     have hI:spK G gv V i r (chF ch i r) k=spI G gv V (chF ch) i r:=by unfold spI;rw [hGK,hk']
     rw [hI] at hk1 hk2 hsl ⊢
     refine ah ?_
     refine ⟨(r+1,row.set r (spI G gv V (chF ch) i r),fl3),hr',hsl,fun r' h =>?_,fun r' h =>?_,fun h=>⟨(hk1 h).1,fun r' h2 =>?_⟩,fun h =>?_,by show s.length-(r+1)<s.length-r;omega,.inl ?_⟩
     ·have h:r'<r+1:=h
      show (row.set r _).getD r' 0=_
      rw [wL _ _ _ _ (by omega)]
      split
      ·rename_i e;rw [e]
      ·exact hr1 r' (by omega)
     ·have h:r+1<=r':=h
      show (row.set r _).getD r' 0=_
      rw [wL _ _ _ _ (by omega),if_neg (by omega)]
      exact hr2 r' (by omega)
     ·have h2:r'<r+1:=h2
      by_cases e:r'=r
      ·rw [e];exact (hk1 h).2.2
      ·exact (hk1 h).2.1 r' (by omega)
     ·rcases hk2 h with h2 | h2
      ·exact h2
      ·exact ⟨i,r,hi',hr',h2⟩
     ·exact dJ
   ·have he:=of_decide_eq_false he
    have hr':r=s.length:=by omega
    subst hr'
    (refine tX 2 rfl (by decide) rfl rfl amT rfl ?_;simp only [xu,simprocAttr])
    refine ah ?_
    have hcat:∀ u,(c.set i row).getD u []=if u=i then row else c.getD u []:=fun u=>WV c i u row (by omega)
    refine ⟨(i+1,c.set i row,fl2),hi',⟨by rw [List.length_set];exact hcl2,fun u hu =>?_⟩,fun i' r' h h2 =>?_,fun i' h =>?_,fun h i' r' h2 h3 =>?_,hg2,by show g.list.length-(i+1)<g.list.length-i;omega,.inr ⟨4,Nat.le_of_ble_eq_true rfl,aT ?_ rfl rfl rfl⟩⟩
    ·rw [hcat]
     split
     ·exact hrl2
     ·exact hDc.row u hu
    ·have h:i'<i+1:=h
     show ((c.set i row).getD i' []).getD r' 0=_
     rw [hcat]
     split
     ·rename_i e;rw [e];exact hr1 r' h2
     ·exact hc1 i' r' (by omega) h2
    ·have h:i+1<=i':=h
     show (c.set i row).getD i' []=_
     rw [hcat,if_neg (by omega)]
     exact hc2 i' (by omega)
    ·have h2:i'<i+1:=h2
     by_cases e:i'=i
     ·rw [e];exact (hg1 h).2 r' h3
     ·exact (hg1 h).1 i' r' (by omega) h3
    ·exact dJ
  ·have hd2:=of_decide_eq_false hd2
   have hi':i=g.list.length:=by omega
   subst hi'
   have hcc:∀ i' r',i'<G.n->r'<G.q->chF c i' r'=spI G gv V (chF ch) i' r':=fun i' r' h1 h2=>hc1 i' r' (by omega) (by omega)
   have hN:=QF (give:=gv) (V:=V) hC
   have hCc:SpC G (chF c):=hN.ok.congr hcc
   refine ah ?_
   cases fl
   ·have hsame:=hf1 rfl
    rcases hcase with ⟨_,rfl⟩ | ⟨⟨i',r',h1,h2,h3⟩,_⟩
    ·refine ⟨(c,false,0),hDc,hCc,fun h=>(by cases h),fun _=>Ac hV fun i' r' h1 h2=>(hcc i' r' h1 h2).trans (hsame i' r' (by omega) (by omega)),by show 0<j+1;omega,.inr ⟨3,Nat.le_of_ble_eq_true rfl,aT ?_ rfl rfl rfl⟩⟩
     exact dJ
    ·exact absurd (hsame i' r' (by omega) (by omega)) h3
   ·obtain ⟨i',r',h1,h2,h3⟩:=hf2 rfl
    rcases hcase with ⟨h4,_⟩ | ⟨_,j2,rfl,h4⟩
    ·exact absurd (h4 i' r' (by omega) (by omega)) h3
    ·refine ⟨(c,true,j2),hDc,hCc,fun _=>h4.congr hcc,fun h=>(by cases h),by show j2+1<j2+1+1;omega,.inr ⟨3,Nat.le_of_ble_eq_true rfl,aT ?_ rfl rfl rfl⟩⟩
     exact dJ
end Go.Proofs.YtnblieajjclipaaGreat
