/- The greatest quotient of cost and growth of a cycle, on the machine: the program's. Conditions: edges between nodes whose costs and growths are small. -/
import Derived.Test.YtkcelmnbfbehbaaGreatZDivi
set_option linter.all false
namespace Go.Proofs.YtkcelmnbfbehbaaGreat
open Go Go.RowKit Am
theorem aap (e:List Int) (a b:Int) (h:0<=b*e.getD 2 0/\b*e.getD 2 0<=11900000000/\0<=a*e.getD 3 0/\a*e.getD 3 0<=11900000000):Does Tryz.prog 162 [JJ e,.lf (ip1 b),.lf (ip1 a)] (.imm (.int (wtR a b e))):=by
 obtain ⟨h1,h2,h3,h4⟩:=h
 refine aC Tryz.func162 rfl Tryz.ntmps162 aX (fun _ _=>by kernel_rfl) rfl (Nat.le_of_ble_eq_true rfl) ?_
 intro M0 w0
 rw [Tryz.results162]
 refine ah ?_
 refine bV ?_
 rfl
def goR:Option (Int×Int)->Int×Int×Bool
 | none=>(0,0,false)
 | some (a,b)=>(a,b,true)
abbrev gR3 (r:Int×Int×Bool):AV := .tup [.one (.b (.val (.int .i64 r.1))),.one (.b (.val (.int .i64 r.2.1))),.one (.b (.val (.bool r.2.2)))]
set_option maxHeartbeats 2000000 in
theorem Nj {E:List (List Int)} {n:Nat} (hE:EgI E n) (hn0:0<n) (hc:∀ e∈E,0<=e.getD 2 0/\e.getD 2 0<=119/\0<=e.getD 3 0/\e.getD 3 0<=119) {o:Option (Int×Int)} (ho:yT E o):Does Tryz.prog 125 [.int n,.sl (.k 4 E)] (.imm (gR3 (goR o))):=by
 have hB:EdB E n:=⟨hE.nle,hE.ed,hc⟩
 have hnl:=hE.nle
 refine aC Tryz.func125 rfl Tryz.ntmps125 aX (fun _ _=>by kernel_rfl) rfl (Nat.le_of_ble_eq_true rfl) ?_
 intro M0 w0
 rw [Tryz.results125]
 refine ah ?_
 refine au (α:=Int×Int) (fun _=>[]) [0,1,7,8] (fun p=>[.box [.b (.val (.int .i64 p.1))],.box [.b (.val (.int .i64 p.2))]]) (fun p=>lQ E p.1 p.2) (fun p=>muR p.1 p.2) (0,1) (by exact aV) (lQ.first E) fun p hp =>?_
 obtain ⟨a,b⟩:=p
 have hp:lQ E a b:=hp
 have hna:=hp.na
 have hma:=hp.ma
 have hnb:=hp.nb
 have hmb:=hp.mb
 have hW:=ZB hc (a:=a) (b:=b) hna (by omega) (by omega) (by omega)
 obtain ⟨r,hr,hcase⟩:=DX (wt:=wtR a b) hE.ed
 have hw:∀ k,k<E.length->Does Tryz.prog 162 [JJ (E.getD k []),.lf (ip1 b),.lf (ip1 a)] (.imm (.int (wtR a b (E.getD k [])))):=fun k hk=>aap _ a b (hW _ (getD_mem hk)).1
 have hd:=DY hE hn0 hc hw (fun e he=>(hW e he).2) hr
 dsimp only
 simp only [xr,simprocAttr]
 refine ah ?_
 ((try refine Or.inl ?_);refine ⟨_,(hd),.inl rfl,?_⟩;refine amC ?_)
 rcases hcase with ⟨rfl,L,hL⟩ | ⟨v,es,hwk,hlen,hgain,rfl⟩
 ·obtain rfl:=res_one ho (hp.done hL)
  refine ah ?_
  refine aj amQ (fun hz =>?_) (fun hz =>?_)
  ·refine ah ?_
   (simp only [xe,simprocAttr];refine ⟨[_,_,_],⟨rfl,rfl,rfl,trivial⟩,rfl,Imp.eq ?_⟩)
   rfl
  ·cases hz
 ·have hbd:=hwk.bd hB
  have hnx:=hp.next hB hwk hlen hgain
  generalize aH dO es=C at *
  generalize aH cu es=G at *
  refine ah ?_
  refine aj amQ (fun hz =>?_) (fun hz =>?_)
  ·cases hz
  refine ah ?_
  refine aj amQ (fun hg =>?_) (fun hg =>?_)
  ·have hg:G=0:=of_decide_eq_true hg
   obtain rfl:=res_one ho (hnx.1 hg)
   refine ah ?_
   (simp only [xe,simprocAttr];refine ⟨[_,_,_],⟨rfl,rfl,rfl,trivial⟩,rfl,Imp.eq ?_⟩)
   rfl
  ·have hg:¬ G=0:=of_decide_eq_false hg
   obtain ⟨k1,k2,k3⟩:=hnx.2 (by omega)
   have hgp:=jH C G (by omega)
   have hgl:=zo C G (by omega)
   have e1:C / (Int.gcd C G:Int)=qN C G:=by unfold qN;rw [Int.tdiv_eq_ediv_of_nonneg hbd.1]
   have e2:G / (Int.gcd C G:Int)=qD C G:=rfl
   refine ah ?_
   ((try refine Or.inl ?_);refine ⟨_,(Fj C G hbd.1 hbd.2.2.1 (by omega) (by omega)),.inl rfl,?_⟩;refine amC ?_)
   (refine amB ?_;refine bM 0 [(6,[0]),(7,[1])] [0,1] [(6,[1]),(7,[0])] ?_;refine mg ?_)
   refine ah ?_
   rw [e1,e2]
   refine ⟨(qN C G,qD C G),k1,k2,.inl ?_⟩
   exact aV
def chV (K v:Nat) (k:Int):Int:=if k<0 then 0 else k-((v*K:Nat):Int)
def chL (K:Nat) (l:List Int):List Int:=(List.range l.length).map fun v=>chV K v (l.getD v (-1))
theorem Ho (K:Nat) (l:List Int):(chL K l).length=l.length:=by simp [chL]
theorem ZQ {K:Nat} {l:List Int} {v:Nat} (h:v<l.length):(chL K l).getD v 0=chV K v (l.getD v (-1)):=by
 unfold chL
 rw [dK _ _ h]
theorem TJ (K n:Nat):chL K (List.replicate n (-1))=List.replicate n 0:=by
 refine List.ext_getElem (by simp [chL]) fun j h1 h2 =>?_
 simp only [chL,List.getElem_map,List.getElem_range,List.getElem_replicate,zN]
 rfl
theorem XH {K:Nat} {l:List Int} {v r:Nat} (hv:v<l.length):(chL K l).set v (r:Int)=chL K (l.set v ((v*K+r:Nat):Int)):=by
 refine List.ext_getElem (by simp [chL]) fun j h1 h2 =>?_
 rw [List.getElem_set]
 simp only [chL,List.getElem_map,List.getElem_range,Ep]
 by_cases e:v=j
 ·subst e
  rw [if_pos rfl,if_pos ⟨rfl,hv⟩]
  unfold chV
  rw [if_neg (by omega)]
  omega
 ·rw [if_neg e,if_neg (by omega)]
theorem Ye {E:List (List Int)} {wt:List Int->Int} {old:List Int} {k:Nat} {s:BF} (h:s.num.getD (efr (E.getD k [])) 0<wt (E.getD k [])+old.getD (eto (E.getD k [])) 0):jx1 wt E old k s=setB s k (E.getD k []) (wt (E.getD k [])+old.getD (eto (E.getD k [])) 0):=if_pos h
theorem Z5 {E:List (List Int)} {wt:List Int->Int} {old:List Int} {k:Nat} {s:BF} (h:¬ s.num.getD (efr (E.getD k [])) 0<wt (E.getD k [])+old.getD (eto (E.getD k [])) 0):jx1 wt E old k s=s:=if_neg h
def SA (R:BF->BF) (n:Nat) (s:BF):Prop:=(∃ t,BD R n t/\s=rnd R n (t+1))\/(pW R n/\s=rnd R n (n+1))
theorem YQ (R:BF->BF) (n:Nat):∃ s,SA R n s:=by
 rcases H6 R n with ⟨t,h⟩ | h
 ·exact ⟨_,.inl ⟨t,h,rfl⟩⟩
 ·exact ⟨_,.inr ⟨h,rfl⟩⟩
abbrev clA (K:Nat) (s:BF):AV := .tv (.agg [.b (.sl (.ints s.num)),.b (.sl (.ints (chL K s.by_))),.b (.val (.int .i64 s.last))])
abbrev bxG (g:PrT):Ob := .box [.b (.sl (.k 2 g.list)),.b (.sl (.ki 3 (eg3 g.rows))),.b (.val (.bool false))]
abbrev bxR (a:Int×Int):Ob := .box [.b (.val (.int .i64 a.1)),.b (.val (.int .i64 a.2))]
abbrev jxS (E:List (List Int)) (wt:List Int->Int) (n t k:Nat):BF:=jxN wt E (rnd (jxR wt E) n t).num (newR (rnd (jxR wt E) n t)) k
set_option maxRecDepth 8000 in
set_option maxHeartbeats 4000000 in
theorem Vg {m s:List (List Int)} {g:PrT} (hF:jh m s g) {a:Int×Int} (ha:zM a=true) {Z:BF} (hS:SA (jxR (wtR a.1 a.2) (egs g.rows)) g.list.length Z) :
  bG Tryz.prog 130 [grA g,frA a] [] [] (.tv (.agg [.own 0,.own 1,.b (.val (.int .i64 Z.last))])) [.row 3 (.ints Z.num),.row 3 (.ints (chL s.length Z.by_))]:=by
 obtain ⟨n,hn⟩:∃ n,n=g.list.length:=⟨_,rfl⟩
 obtain ⟨E,hEq⟩:∃ E,E=egs g.rows:=⟨_,rfl⟩
 obtain ⟨K,hK⟩:∃ K,K=s.length:=⟨_,rfl⟩
 obtain ⟨wt,hwt⟩:∃ wt,wt=wtR a.1 a.2:=⟨_,rfl⟩
 have hEI:=QV hF
 have hc:=QW hF
 obtain ⟨h1,h2,h3,h4⟩:=WA ha
 have hW:=ZB hc h1 h2 (show 0<=a.2 by omega) (show a.2<=100000000 by omega)
 have hl:=aQ hF.prob
 have hrl:=hF.rlen
 have hpos:=hF.pos
 have hle:=hF.le
 have hin:=fun j r hj hr=>Fz hF (j:=j) (r:=r) hj hr
 have hlenE:(egs g.rows).length=g.list.length*s.length:=by rw [qJ hF.row,hF.rlen]
 have hrow3:∀ j,j<g.list.length->((eg3 g.rows).getD j []).length=s.length:=fun j hj=>by
  have e:(eg3 g.rows).getD j []=(g.rows.getD j []).map c3:=by
   unfold eg3
   rw [List.getD_eq_getElem?_getD,List.getD_eq_getElem?_getD,List.getElem?_map]
   cases g.rows[j]? <;> rfl
  rw [e,List.length_map,hF.row j (by omega)]
 have he3:∀ j r,j<g.list.length->r<s.length->((eg3 g.rows).getD j []).getD r []=c3 ((egs g.rows).getD (j*s.length+r) []):=fun j r hj hr=>by
  have hr2:=hF.row j (by omega)
  rw [CJ hF.row j r (by omega) hr]
  have e:(eg3 g.rows).getD j []=(g.rows.getD j []).map c3:=by
   unfold eg3
   rw [List.getD_eq_getElem?_getD,List.getD_eq_getElem?_getD,List.getElem?_map]
   cases g.rows[j]? <;> rfl
  rw [e]
  generalize g.rows.getD j []=row at hr2
  rw [List.getD_eq_getElem?_getD,List.getD_eq_getElem?_getD,List.getElem?_map,List.getElem?_eq_getElem (show r<row.length by omega)]
  rfl
 have hl3:(eg3 g.rows).length=g.list.length:=by simp [eg3,hrl]
 rw [← hn,← hEq,← hwt] at hS
 simp only [← hn,← hEq,← hwt,← hK] at hEI hc hW hl hpos hle hin hlenE hrow3 he3 hl3
 rw [← hK]
 have hbi:=fun t=>tV (fun s t=>BI.jac hEI.ed (wt:=wt)) t
 have hbd:=IJ (W:=100000000000) hEI.ed (by omega) fun e he=>(hW e he).2.2
 clear hF
 subst hn
 have hnum0:(rnd (jxR wt E) g.list.length 0).num=List.replicate g.list.length 0:=rfl
 have hby0:chL K (rnd (jxR wt E) g.list.length 0).by_=List.replicate g.list.length 0:=TJ K _
 refine bY Tryz.func130 rfl Tryz.ntmps130 aX (fun _ _=>by kernel_rfl) rfl rfl rfl ?_
 intro M0 w0 S φ0
 rw [Tryz.results130]
 refine ah ?_
 (refine amB ?_;refine bM 3 [(3,[3]),(7,[4]),(9,[5]),(10,[5])] [3,4,5] [(3,[4,5]),(7,[3,5]),(8,[5]),(9,[3,4]),(10,[])] ?_;refine mg ?_)
 refine ah ?_
 refine au (α:=Nat) (fun t=>[(6,true,.int t)]) [2,3,4,5] (fun t=>[bxG g,bxR a,.box [.b (.val (.slice none 0 0)),.b (.val (.slice none 0 0)),.b (.val (.int .i64 0))],.row 3 (.ints (rnd (jxR wt E) g.list.length t).num),.row 3 (.ints (chL K (rnd (jxR wt E) g.list.length t).by_)),.box [.own 3,.own 4,.b (.val (.int .i64 (rnd (jxR wt E) g.list.length t).last))]]) (fun t=>t<=g.list.length+1/\∀ i,i<t->¬ (rnd (jxR wt E) g.list.length (i+1)).last<0) (fun t=>g.list.length+1-t) 0 (by exact bI (by rw [hnum0,hby0];rfl)) ⟨by omega,fun i hi=>by omega⟩ fun t ht =>?_
 obtain ⟨ht,hls⟩:=ht
 have hb:=hbi t
 have hbt:=hbd t
 have hb1:=hb.bl.num
 have hb2:=hb.bl.byl
 have hb0:(t:Int)*100000000000<=100000000000000:=by omega
 have hbc:=Ho K (rnd (jxR wt E) g.list.length t).by_
 simp only [xr,simprocAttr]
 refine ah ?_
 refine aj amQ (fun hlt =>?_) (fun hlt =>?_)
 ·have hlt:=of_decide_eq_true hlt
  have ht0:jxS E wt g.list.length t 0=newR (rnd (jxR wt E) g.list.length t):=rfl
  refine ah ?_
  refine au (α:=Nat) (fun i=>[(8,true,.int i)]) [2,3,4,5,6,7] (fun i=>[bxG g,bxR a,.box [.b (.val (.slice none 0 0)),.b (.val (.slice none 0 0)),.b (.val (.int .i64 0))],.row 3 (.ints (rnd (jxR wt E) g.list.length t).num),.row 3 (.ints (chL K (jxS E wt g.list.length t (i*K)).by_)),.box [.own 3,.own 4,.b (.val (.int .i64 (jxS E wt g.list.length t (i*K)).last))],.row 3 (.ints (jxS E wt g.list.length t (i*K)).num)]) (fun i=>i<=g.list.length) (fun i=>g.list.length-i) 0 (by rw [Nat.zero_mul,ht0];((try simp only [xk]);(repeat (refine fP ?_ ?_;first | (exact amE) | rotate_left));(refine gZ ?_;exact (by rfl));(all_goals (try (simp only [xr,simprocAttr];try refine gQ ?_))))) (Nat.zero_le _) fun i hi =>?_
  simp only [xr,simprocAttr]
  refine ah ?_
  refine aj amQ (fun hic =>?_) (fun hic =>?_)
  ·have hic:=of_decide_eq_true hic
   have hi':i<g.list.length:=by omega
   have hrw:=hrow3 i hi'
   refine ah ?_
   refine au (α:=Nat) (fun r=>[(9,true,.int r)]) [2,3,4,5,6,7,8] (fun r=>[bxG g,bxR a,.box [.b (.val (.slice none 0 0)),.b (.val (.slice none 0 0)),.b (.val (.int .i64 0))],.row 3 (.ints (rnd (jxR wt E) g.list.length t).num),.row 3 (.ints (chL K (jxS E wt g.list.length t (i*K+r)).by_)),.box [.own 3,.own 4,.b (.val (.int .i64 (jxS E wt g.list.length t (i*K+r)).last))],.row 3 (.ints (jxS E wt g.list.length t (i*K+r)).num)]) (fun r=>r<=K) (fun r=>K-r) 0 (by exact aV) (Nat.zero_le _) fun r hr =>?_
   simp only [xr,simprocAttr]
   refine ah ?_
   refine aj amQ (fun hrc =>?_) (fun hrc =>?_)
   ·have hrc:=of_decide_eq_true hrc
    have hr':r<K:=by omega
    have hk:i*K+r<E.length:=by
     rw [hlenE]
     have h5:=Nat.mul_le_mul_right K (show i+1<=g.list.length by omega)
     rw [Nat.succ_mul] at h5
     omega
    obtain ⟨v,x,y,h5,h6,h7⟩:=hin i r hi' hr'
    have hW5:=(hW _ (getD_mem hk)).1
    have hW6:=(hW _ (getD_mem hk)).2
    have hS1:=Np (wt:=wt) (old:=(rnd (jxR wt E) g.list.length t).num) hb.bl.fresh (i*K+r) (by omega)
    have hS2:=hS1.num
    have hS3:=hS1.byl
    have hS4:=Ho K (jxS E wt g.list.length t (i*K+r)).by_
    have hnx:jxS E wt g.list.length t (i*K+(r+1))=jx1 wt E (rnd (jxR wt E) g.list.length t).num (i*K+r) (jxS E wt g.list.length t (i*K+r)):=rfl
    have hov:=hbt v
    have hon:=hb.nn v
    have h3r:=he3 i r hi' hr'
    have hgd:=Vb (E.getD (i*K+r) []) a hW5.1 (by omega) hW5.2.2.1 (by omega)
    have hgw:eX a.1 a.2 (E.getD (i*K+r) [])=wt (E.getD (i*K+r) []):=by rw [hwt];rfl
    rw [hgw] at hgd
    unfold nbN at hov hon
    have hef:efr (E.getD (i*K+r) [])=i:=by rw [h5];exact Int.toNat_natCast i
    have het:eto (E.getD (i*K+r) [])=v:=by rw [h5];exact Int.toNat_natCast v
    have hy1:=Ye (wt:=wt) (E:=E) (k:=i*K+r) (s:=jxS E wt g.list.length t (i*K+r)) (old:=(rnd (jxR wt E) g.list.length t).num)
    have hn1:=Z5 (wt:=wt) (E:=E) (k:=i*K+r) (s:=jxS E wt g.list.length t (i*K+r)) (old:=(rnd (jxR wt E) g.list.length t).num)
    rw [hef,het] at hy1 hn1
    rw [← hnx] at hy1 hn1
    have hto:(c3 (E.getD (i*K+r) [])).getD 0 0=(v:Int):=by rw [h5];rfl
    change BL E g.list.length (jxS E wt g.list.length t (i*K+r)) at hS1
    change (jxS E wt g.list.length t (i*K+r)).num.length=_ at hS2
    change (jxS E wt g.list.length t (i*K+r)).by_.length=_ at hS3
    generalize jxS E wt g.list.length t (i*K+r)=T at *
    rw [hto] at hgd
    refine ah ?_
    simp only [h3r,hto]
    ((try refine Or.inl ?_);refine ⟨_,(hgd),.inl rfl,?_⟩;refine amC ?_)
    refine ah ?_
    refine aj amQ (fun hx =>?_) (fun hx =>?_)
    ·have hx:=of_decide_eq_true hx
     have hS5:(chL K T.by_).set i (r:Int)=chL K (T.by_.set i ((i*K+r:Nat):Int)):=XH (by omega)
     have hT:jxS E wt g.list.length t (i*K+(r+1))=⟨T.num.set i (wt (E.getD (i*K+r) [])+(rnd (jxR wt E) g.list.length t).num.getD v 0),T.by_.set i ((i*K+r:Nat):Int),(i:Int)⟩:=by
      rw [hy1 hx]
      unfold setB
      rw [hef]
     refine ah ?_
     refine ⟨r+1,by omega,by omega,.inl ?_⟩
     exact bI (by rw [hT,← hS5]<;>rfl)
    ·have hx:=of_decide_eq_false hx
     have hT:=hn1 hx
     refine ah ?_
     refine ⟨r+1,by omega,by omega,.inl ?_⟩
     exact bI (by rw [hT]<;>rfl)
   ·have hrc:=of_decide_eq_false hrc
    obtain rfl:r=K:=by omega
    refine ah ?_
    refine ⟨i+1,by omega,by omega,.inl ?_⟩
    exact bI (by rw [Nat.succ_mul]<;>rfl)
  ·have hic:=of_decide_eq_false hic
   obtain rfl:i=g.list.length:=by omega
   have hrt:jxS E wt g.list.length t (g.list.length*K)=rnd (jxR wt E) g.list.length (t+1):=by rw [← hlenE];rfl
   rw [hrt]
   refine ah ?_
   refine aj amQ (fun hlz =>?_) (fun hlz =>?_)
   ·have hlz:=of_decide_eq_true hlz
    have hS0:Z=rnd (jxR wt E) g.list.length (t+1):=by
     rcases hS with ⟨u,h,h'⟩ | ⟨h,_⟩
     ·have:u=t:=by
       rcases Nat.lt_trichotomy u t with h8 | h8 | h8
       ·exact (hls u h8 h.2.1).elim
       ·exact h8
       ·exact (h.2.2 t h8 hlz).elim
      rw [h',this]
     ·exact (h t (by omega) hlz).elim
    subst hS0
    refine ah ?_
    (simp only [aG,aN];refine dw [6,4] rfl ⟨rfl,rfl,trivial⟩ rfl rfl rfl rfl ⟨amK,rfl⟩ ?_;try rfl)
   ·have hlz:=of_decide_eq_false hlz
    refine amB ?_
    (refine aU 3 rfl ?_;simp only [xz,simprocAttr])
    (refine jJ 3 6 rfl rfl (by decide) rfl rfl ?_;simp only [xm,simprocAttr])
    refine ah ?_
    refine ⟨t+1,by omega,fun j hj =>?_,by omega,.inr ⟨6,Nat.le_of_ble_eq_true rfl,aJ ?_ rfl rfl rfl⟩⟩
    ·by_cases e:j=t
     ·subst e
      exact hlz
     ·exact hls j (by omega)
    ·exact aV
 ·have hlt:=of_decide_eq_false hlt
  obtain rfl:t=g.list.length+1:=by omega
  have hS0:Z=rnd (jxR wt E) g.list.length (g.list.length+1):=by
   rcases hS with ⟨u,h,h'⟩ | ⟨_,h⟩
   ·exact (hls u (by have:=h.1;omega) h.2.1).elim
   ·exact h
  subst hS0
  refine ah ?_
  (simp only [aG,aN];refine dw [3,4] rfl ⟨rfl,rfl,trivial⟩ rfl rfl rfl rfl ⟨amK,rfl⟩ ?_;try rfl)
theorem Vf {m s:List (List Int)} {g:PrT} (hF:jh m s g) {a:Int×Int} (ha:zM a=true) {S:BF} (hS:SA (jxR (wtR a.1 a.2) (egs g.rows)) g.list.length S) :
  Does Tryz.prog 130 [grA g,frA a] (.imm (clA s.length S)):=nP (Vg hF ha hS)
theorem Za {m s:List (List Int)} {g:PrT} (hF:jh m s g) {j r:Nat} (hj:j<g.list.length) (hr:r<s.length):((eg3 g.rows).getD j []).getD r []=c3 ((egs g.rows).getD (j*s.length+r) []):=by
 have hrl:=hF.rlen
 have hr2:=hF.row j (by omega)
 rw [CJ hF.row j r (by omega) hr]
 have e:(eg3 g.rows).getD j []=(g.rows.getD j []).map c3:=by
  unfold eg3
  rw [List.getD_eq_getElem?_getD,List.getD_eq_getElem?_getD,List.getElem?_map]
  cases g.rows[j]? <;> rfl
 rw [e]
 generalize g.rows.getD j []=row at hr2
 rw [List.getD_eq_getElem?_getD,List.getD_eq_getElem?_getD,List.getElem?_map,List.getElem?_eq_getElem (show r<row.length by omega)]
 rfl
theorem LD {m s:List (List Int)} {g:PrT} (hF:jh m s g) {j:Nat} (hj:j<g.list.length):((eg3 g.rows).getD j []).length=s.length:=by
 have hrl:=hF.rlen
 have e:(eg3 g.rows).getD j []=(g.rows.getD j []).map c3:=by
  unfold eg3
  rw [List.getD_eq_getElem?_getD,List.getD_eq_getElem?_getD,List.getElem?_map]
  cases g.rows[j]? <;> rfl
 rw [e,List.length_map,hF.row j (by omega)]
theorem Zm {m s:List (List Int)} {g:PrT} (hF:jh m s g) {S:BF} (hb:BL (egs g.rows) g.list.length S) {wt:List Int->Int} (hf:Fit (egs g.rows) wt (nbN S) (nbX (egs g.rows) S.by_)) {u:Nat} (h:nbX (egs g.rows) S.by_ u≠none) :
  u<g.list.length/\∃ r,r<s.length/\(chL s.length S.by_).getD u 0=(r:Int)/\edN (nbX (egs g.rows) S.by_) u=(egs g.rows).getD (u*s.length+r) []/\aZ (nbX (egs g.rows) S.by_) u=eto ((egs g.rows).getD (u*s.length+r) []):=by
 have hl:=aQ hF.prob
 obtain ⟨h1,h2,h3,h4,h5⟩:=P5 hb h
 have hlen:(egs g.rows).length=g.list.length*s.length:=by rw [qJ hF.row,hF.rlen]
 obtain ⟨k,hk⟩:∃ k:Nat,S.by_.getD u 0=k:=⟨(S.by_.getD u 0).toNat,by omega⟩
 rw [hk,Int.toNat_natCast] at h4 h5
 have hkl:k<g.list.length*s.length:=by omega
 have hdm:k / s.length*s.length+k % s.length=k:=by rw [Nat.mul_comm];exact Nat.div_add_mod _ _
 have hmod:=Nat.mod_lt k (show 0<s.length by omega)
 have hdiv:k / s.length<g.list.length:=Nat.div_lt_of_lt_mul (by rw [Nat.mul_comm];exact hkl)
 obtain ⟨k',a,b,h6,_⟩:=Fz hF hdiv hmod
 rw [hdm] at h6
 have hu:k / s.length=u:=by
  cases he:nbX (egs g.rows) S.by_ u with
  | none=>exact (h he).elim
  | some e =>
   have h7:=(hf.mem u e he).2
   have h8:edN (nbX (egs g.rows) S.by_) u=e:=by unfold edN;rw [he];rfl
   rw [h4,h6] at h8
   rw [← h8] at h7
   have h9:((k / s.length:Nat):Int).toNat=u:=h7
   rw [Int.toNat_natCast] at h9
   exact h9
 rw [hu] at hdm
 refine ⟨h1,k % s.length,hmod,?_,?_,?_⟩
 ·have hul:u<S.by_.length:=by rw [hb.byl];exact h1
  rw [ZQ hul,getM hul,hk]
  unfold chV
  rw [if_neg (by omega)]
  generalize k % s.length=r at hdm ⊢
  generalize u*s.length=q at hdm ⊢
  omega
 ·rw [hdm];exact h4
 ·rw [hdm];exact h5
set_option maxHeartbeats 2000000 in
theorem Vd {m s:List (List Int)} {g:PrT} (hF:jh m s g) {wt:List Int->Int} {S:BF} {v p:Nat} (hb:BL (egs g.rows) g.list.length S) (hf:Fit (egs g.rows) wt (nbN S) (nbX (egs g.rows) S.by_)) (hv1:S.last=v) (hv3:∀ j,j<=g.list.length->nbX (egs g.rows) S.by_ (itr (aZ (nbX (egs g.rows) S.by_)) j v)≠none)
  (hcy:QF (egs g.rows) wt g.list.length S.by_ (itr (aZ (nbX (egs g.rows) S.by_)) g.list.length v) p):Does Tryz.prog 131 [grA g,clA s.length S] (.imm (.tup [.one (.b (.val (.int .i64 (aH dO (iJ (nbX (egs g.rows) S.by_) (itr (aZ (nbX (egs g.rows) S.by_)) g.list.length v) p))))),.one (.b (.val (.int .i64 (aH cu (iJ (nbX (egs g.rows) S.by_) (itr (aZ (nbX (egs g.rows) S.by_)) g.list.length v) p)))))])):=by
 have hle:=hF.le
 have hrl:=hF.rlen
 have hc:=QW hF
 have hl3:(eg3 g.rows).length=g.list.length:=by simp [eg3,hrl]
 have hcl:=Ho s.length S.by_
 have hbl2:=hb.byl
 have hl:=aQ hF.prob
 refine aC Tryz.func131 rfl Tryz.ntmps131 aX (fun _ _=>by kernel_rfl) rfl (Nat.le_of_ble_eq_true rfl) ?_
 intro M0 w0
 rw [Tryz.results131]
 refine ah ?_
 rw [hv1]
 refine au (α:=Nat) (fun i=>[(7,true,.int i),(6,true,.int (itr (aZ (nbX (egs g.rows) S.by_)) i v:Nat))]) [2,3,4,5] (fun _=>[bxG g,.box [.b (.sl (.ints S.num)),.b (.sl (.ints (chL s.length S.by_))),.b (.val (.int .i64 v))]]) (fun i=>i<=g.list.length) (fun i=>g.list.length-i) 0 (by exact aV) (Nat.zero_le _) fun i hi =>?_
 obtain ⟨h1,r,h2,h3,-,h5⟩:=Zm hF hb hf (hv3 i hi)
 have h6:itr (aZ (nbX (egs g.rows) S.by_)) (i+1) v=eto ((egs g.rows).getD (itr (aZ (nbX (egs g.rows) S.by_)) i v*s.length+r) []):=h5
 have hc3:=Za hF h1 h2
 have hr3:=LD hF h1
 obtain ⟨k,x,y,h7,h8,h9⟩:=Fz hF h1 h2
 simp only [xr,simprocAttr]
 refine ah ?_
 refine aj amQ (fun hic =>?_) (fun hic =>?_)
 ·have hic:=of_decide_eq_true hic
  generalize itr (aZ (nbX (egs g.rows) S.by_)) i v=u at *
  rw [h7] at hc3 h6
  refine ah ?_
  rw [h3,Int.toNat_natCast,hc3]
  refine ⟨i+1,by omega,by omega,.inl ?_⟩
  ((try simp only [xk]);(repeat (refine fP ?_ ?_;first | (exact amE) | rotate_left));(refine gZ ?_;exact (by rfl));(all_goals (try (simp only [xr,simprocAttr];try refine gQ ?_))))
  rw [h6]
  rfl
 ·have hic:=of_decide_eq_false hic
  obtain rfl:i=g.list.length:=by omega
  have hsm:=hcy.some
  have hp1:=hcy.p1
  have hpn:=hcy.pn
  have hbk:=hcy.back
  have hfb:=hcy.first
  clear h1 h2 h3 h5 h6 hc3 hr3 h7 h8 h9
  generalize itr (aZ (nbX (egs g.rows) S.by_)) g.list.length v=c at *
  refine ah ?_
  refine au (α:=Nat) (fun j=>[(10,true,.int j),(6,true,.int (itr (aZ (nbX (egs g.rows) S.by_)) j c:Nat)),(8,true,.int (aH dO (iJ (nbX (egs g.rows) S.by_) c j))),(9,true,.int (aH cu (iJ (nbX (egs g.rows) S.by_) c j)))]) [2,3,11] (fun _=>[bxG g,.box [.b (.sl (.ints S.num)),.b (.sl (.ints (chL s.length S.by_))),.b (.val (.int .i64 v))]]) (fun j=>j<=p) (fun j=>p-j) 0 (by exact aV) (Nat.zero_le _) fun j hj =>?_
  obtain ⟨h1,r,h2,h3,h4,h5⟩:=Zm hF hb hf (hsm j)
  have hcb:=MH hb hc hsm j
  have h6:itr (aZ (nbX (egs g.rows) S.by_)) (j+1) c=eto ((egs g.rows).getD (itr (aZ (nbX (egs g.rows) S.by_)) j c*s.length+r) []):=h5
  have hc3:=Za hF h1 h2
  have hr3:=LD hF h1
  obtain ⟨k,x,y,h7,h8,h9⟩:=Fz hF h1 h2
  rw [h7] at hc3 h6 h4
  have e1:aH dO (iJ (nbX (egs g.rows) S.by_) c (j+1))=aH dO (iJ (nbX (egs g.rows) S.by_) c j)+x:=by
   rw [iJ,jF,h4]
   simp [aH,dO]
  have e2:aH cu (iJ (nbX (egs g.rows) S.by_) c (j+1))=aH cu (iJ (nbX (egs g.rows) S.by_) c j)+y:=by
   rw [iJ,jF,h4]
   simp [aH,cu]
  have hq1:j=p->j≠0/\itr (aZ (nbX (egs g.rows) S.by_)) j c=c:=fun e=>⟨by omega,by rw [e];exact hbk⟩
  have hq2:j≠p->j=0\/itr (aZ (nbX (egs g.rows) S.by_)) j c≠c:=fun e=>by
   rcases Nat.eq_zero_or_pos j with h | h
   ·exact .inl h
   ·exact .inr (hfb j h (by omega))
  generalize itr (aZ (nbX (egs g.rows) S.by_)) j c=u at *
  generalize hC:aH dO (iJ (nbX (egs g.rows) S.by_) c j)=C at *
  generalize hG:aH cu (iJ (nbX (egs g.rows) S.by_) c j)=G at *
  simp only [xr,simprocAttr]
  refine ah ?_
  refine aj amQ (fun hq =>?_) (fun hq =>?_)
  ·have hjp:j≠p:=fun e=>by
    obtain ⟨k1,k2⟩:=hq1 e
    subst k2
    simp at hq
    omega
   (refine amB ?_;refine fF [2] 13 [] (by kernel_rfl) (by kernel_rfl) (by kernel_rfl) (by kernel_rfl) (by kernel_rfl) ?_;refine amM ?_)
   have t0:(c3 [(u:Int),(k:Int),x,y]).getD 0 0=(k:Int):=rfl
   have t1:(c3 [(u:Int),(k:Int),x,y]).getD 1 0=x:=rfl
   have t2:(c3 [(u:Int),(k:Int),x,y]).getD 2 0=y:=rfl
   have h6':(k:Int)=(eto [(u:Int),(k:Int),x,y]:Nat):=by show (k:Int)=(((k:Int)).toNat:Int);omega
   have h6'':(k:Int)=((itr (aZ (nbX (egs g.rows) S.by_)) (j+1) c:Nat):Int):=by rw [h6];exact h6'
   have f1:=e1.symm
   have f2:=e2.symm
   rw [h3,Int.toNat_natCast,hc3]
   simp only [t0,t1,t2]
   refine ah ?_
   refine ⟨j+1,by omega,by omega,.inr ⟨2,Nat.le_of_ble_eq_true rfl,aJ ?_ rfl rfl rfl⟩⟩
   exact aV
  ·have hjp:j=p:=Classical.byContradiction fun e=>by
    rcases hq2 e with k1 | k1
    ·subst k1
     simp at hq
    ·simp at hq
     omega
   subst hjp
   refine ah ?_
   (simp only [xe,simprocAttr];refine ⟨[_,_],⟨rfl,rfl,trivial⟩,rfl,Imp.eq ?_⟩)
   rw [hC,hG]
def Cj (x y:Int):Int:=if x<y then -1 else if y<x then 1 else 0
theorem PU (a b:Int×Int) (h1:I64 (a.1*b.2)) (h2:I64 (b.1*a.2)):Does Tryz.prog 79 [frA a,frA b] (.imm (.int (Cj (a.1*b.2) (b.1*a.2)))):=by
 unfold I64 at h1 h2
 refine aC Tryz.func79 rfl Tryz.ntmps79 aX (fun _ _=>by kernel_rfl) rfl (Nat.le_of_ble_eq_true rfl) ?_
 intro M0 w0
 rw [Tryz.results79]
 refine ah ?_
 generalize a.1*b.2=x at *
 generalize b.1*a.2=y at *
 refine aj amQ (fun hc =>?_) (fun hc =>?_)
 ·have hc:=of_decide_eq_true hc
  refine ah ?_
  refine bV ?_
  unfold Cj
  rw [if_pos hc]
 ·have hc:=of_decide_eq_false hc
  refine ah ?_
  refine aj amQ (fun hd =>?_) (fun hd =>?_)
  ·have hd:=of_decide_eq_true hd
   refine ah ?_
   refine bV ?_
   unfold Cj
   rw [if_neg hc,if_pos hd]
  ·have hd:=of_decide_eq_false hd
   refine ah ?_
   refine bV ?_
   unfold Cj
   rw [if_neg hc,if_neg hd]
def exV:Option (Int×Int)->(Int×Int)×Bool
 | none=>((0,0),false)
 | some (a,b)=>((a,b),true)
theorem Z4 {a b:Int} (h1:0<=a) (h2:a<=71400) (h3:1<=b) (h4:b<=71400) (h5:Int.gcd a b=1):lF a b=true/\uX a b=(a,b):=by
 have e1:qN a b=a:=by unfold qN;rw [h5];simp
 have e2:qD a b=b:=by unfold qD;rw [h5];simp
 have e3:lF a b=true:=by
  unfold lF
  rw [e1,e2]
  exact qM.2 ⟨h3,by omega,by omega,by omega,h5⟩
 exact ⟨e3,by unfold uX;rw [e3,e1,e2];rfl⟩
theorem aaq {E:List (List Int)} {a b:Int} (h:lQ E a b):zM (a,b)=true:=by
 unfold zM
 rw [Bool.and_eq_true,qM,decide_eq_true_eq]
 have h1:=h.na
 have h2:=h.ma
 have h3:=h.nb
 have h4:=h.mb
 exact ⟨⟨h3,by show b<=_;omega,by show _<=a;omega,by show a<=_;omega,h.low⟩,h1⟩
set_option maxHeartbeats 4000000 in
theorem Ri {m s:List (List Int)} {g:PrT} (hF:jh m s g) {o:Option (Int×Int)} (ho:yT (egs g.rows) o):Does Tryz.prog 78 [grA g] (.imm (.tup [frT (exV o).1,blT (exV o).2])):=by
 have hE:=QV hF
 have hB:=JG hF
 have hle:=hF.le
 refine aC Tryz.func78 rfl Tryz.ntmps78 aX (fun _ _=>by kernel_rfl) rfl (Nat.le_of_ble_eq_true rfl) ?_
 intro M0 w0
 rw [Tryz.results78]
 refine ah ?_
 refine au (α:=Int×Int) (fun _=>[]) [1,2,3,4] (fun p=>[bxG g,.box [.b (.val (.int .i64 0)),.b (.val (.int .i64 0))],bxR p]) (fun p=>lQ (egs g.rows) p.1 p.2) (fun p=>muR p.1 p.2) (0,1) (by exact aV) (lQ.first _) fun p hp =>?_
 obtain ⟨a,b⟩:=p
 have hp:lQ (egs g.rows) a b:=hp
 obtain ⟨S,hS⟩:=YQ (jxR (wtR a b) (egs g.rows)) g.list.length
 have hR:=Vf hF (aaq hp) hS
 have hcase:(S.last<0/\∃ L,pX (egs g.rows) (wtR a b) L)\/(¬ S.last<0/\∃ v es,Wk (egs g.rows) v es v/\es.length<=g.list.length/\0<aH (wtR a b) es/\Does Tryz.prog 131 [grA g,clA s.length S] (.imm (.tup [.one (.b (.val (.int .i64 (aH dO es)))),.one (.b (.val (.int .i64 (aH cu es))))]))):=by
  rcases hS with ⟨t,ht,rfl⟩ | ⟨hn,rfl⟩
  ·exact .inl ⟨ht.2.1,_,ht.pot fun s t=>BI.jac hE.ed⟩
  ·obtain ⟨v,h1,h2,h3,p,hcy⟩:=hn.cyc hE.ed fun s t=>BI.jac hE.ed
   have hbi:=tV (fun s t=>BI.jac hE.ed (wt:=wtR a b)) (g.list.length+1)
   exact .inr ⟨hn _ (Nat.le_refl _),_,_,hcy.wk,hcy.len,hcy.gain,Vd hF hbi.bl hbi.fit h1 h3 hcy⟩
 have hna:=hp.na
 have hma:=hp.ma
 have hnb:=hp.nb
 have hmb:=hp.mb
 clear hS
 simp only [xr,simprocAttr]
 refine ah ?_
 ((try refine Or.inl ?_);refine ⟨_,(hR),amF,?_⟩;refine amC ?_)
 refine ah ?_
 rcases hcase with ⟨hl,L,hL⟩ | ⟨hl,v,es,hwk,hlen,hgain,hlp⟩
 ·obtain rfl:=res_one ho (hp.done hL)
  refine aj amQ (fun hz =>?_) (fun hz =>?_)
  ·refine ah ?_
   refine ny ?_
   rfl
  ·exact (of_decide_eq_false hz hl).elim
 ·have hbd:=hwk.bd hB
  have hnx:=hp.next hB hwk hlen hgain
  generalize aH dO es=C at *
  generalize aH cu es=G at *
  refine aj amQ (fun hz =>?_) (fun hz =>?_)
  ·exact (hl (of_decide_eq_true hz)).elim
  refine ah ?_
  ((try refine Or.inl ?_);refine ⟨_,(hlp),.inl rfl,?_⟩;refine amC ?_)
  refine ah ?_
  refine aj amQ (fun hg =>?_) (fun hg =>?_)
  ·have hg:G=0:=of_decide_eq_true hg
   obtain rfl:=res_one ho (hnx.1 hg)
   refine ah ?_
   refine ny ?_
   rfl
  ·have hg:¬ G=0:=of_decide_eq_false hg
   obtain ⟨k1,k2,k3⟩:=hnx.2 (by omega)
   have hok:lF C G=true:=V5 (by omega) (by omega) (by omega) (by omega)
   have hfr:uX C G=(qN C G,qD C G):=by unfold uX;rw [hok];rfl
   have hmk:=KD C G (by omega) (by omega) (by omega) (by omega)
   rw [hok,hfr] at hmk
   generalize qN C G=x at *
   generalize qD C G=y at *
   have q1:=k1.na
   have q2:=k1.ma
   have q3:=k1.nb
   have q4:=k1.mb
   have q5:0<=x*b/\x*b<=71400*71400:=⟨Int.mul_nonneg q1 (by omega),Int.mul_le_mul q2 hmb (by omega) (by decide)⟩
   have q6:0<=a*y/\a*y<=71400*71400:=⟨Int.mul_nonneg hna (by omega),Int.mul_le_mul hma q4 (by omega) (by decide)⟩
   have hcm:=PU (x,y) (a,b) (by show I64 (x*b);unfold I64;omega) (by show I64 (a*y);unfold I64;omega)
   have hcv:Cj ((x,y).1*(a,b).2) ((a,b).1*(x,y).2)=1:=by
    show Cj (x*b) (a*y)=1
    unfold Cj
    rw [if_neg (by omega),if_pos k3]
   rw [hcv] at hcm
   refine ah ?_
   ((try refine Or.inl ?_);refine ⟨_,(hmk),.inl rfl,?_⟩;refine amC ?_)
   refine ah ?_
   ((try refine Or.inl ?_);refine ⟨_,(hcm),.inl rfl,?_⟩;refine amC ?_)
   refine ah ?_
   refine aj amQ (fun hq =>?_) (fun hq =>?_)
   ·simp at hq
   refine ah ?_
   refine ⟨(x,y),k1,k2,.inr ⟨3,Nat.le_of_ble_eq_true rfl,aJ ?_ rfl rfl rfl⟩⟩
   exact aV
theorem H7 {L E:List (List Int)} {n:Nat} (hnl:L.length=n) (hE:EgI E n) (hn0:0<n) (hc:∀ e∈E,0<=e.getD 2 0/\e.getD 2 0<=119/\0<=e.getD 3 0/\e.getD 3 0<=119) {o:Option (Int×Int)} (ho:yT E o) (hb:∀ a b,o=some (a,b)->lQ E a b) (K:Nat):Does Tryz.prog 71 [prX L E K] (.imm (.tup [frT (exV o).1,blT (exV o).2])):=by
 have hg:=Nj hE hn0 hc ho
 subst hnl
 refine aC Tryz.func71 rfl Tryz.ntmps71 aX (fun _ _=>by kernel_rfl) rfl (Nat.le_of_ble_eq_true rfl) ?_
 intro M0 w0
 rw [Tryz.results71]
 refine ah ?_
 cases o with
 | none =>
  ((try refine Or.inl ?_);refine ⟨_,(hg),.inl rfl,?_⟩;refine amC ?_)
  refine ah ?_
  refine aj amQ (fun hz =>?_) (fun hz =>?_)
  ·refine ah ?_
   refine ny ?_
   rfl
  ·cases hz
 | some p =>
  obtain ⟨a,b⟩:=p
  have h:=hb a b rfl
  have h1:=h.na
  have h2:=h.ma
  have h3:=h.nb
  have h4:=h.mb
  obtain ⟨k1,k2⟩:=Z4 h1 h2 h3 h4 h.low
  have hmk:=Dw a b (by omega) (by omega) (by omega) (by omega)
  rw [k1,k2] at hmk
  ((try refine Or.inl ?_);refine ⟨_,(hg),.inl rfl,?_⟩;refine amC ?_)
  refine ah ?_
  refine aj amQ (fun hz =>?_) (fun hz =>?_)
  ·cases hz
  refine ah ?_
  ((try refine Or.inl ?_);refine ⟨_,(hmk),.inl rfl,?_⟩;refine amC ?_)
  refine ah ?_
  refine ny ?_
  rfl
noncomputable def exO (E:List (List Int)):Option (Int×Int) := @Classical.epsilon _ ⟨none⟩ fun o=>yT E o/\∀ a b,o=some (a,b)->lQ E a b
theorem vW {E:List (List Int)} {n:Nat} (h:EdB E n):yT E (exO E)/\∀ a b,exO E=some (a,b)->lQ E a b:=Classical.epsilon_spec (p:=fun o=>yT E o/\∀ a b,o=some (a,b)->lQ E a b) (aas h)
noncomputable def exB (m s nx:List (List Int)) (x:Int):(Int×Int)×Bool:=bif (prQ m s nx x).2 then ((0,0),false) else exV (exO (egs (prQ m s nx x).1.rows))
set_option maxHeartbeats 2000000 in
theorem jS (m s nx:List (List Int)) (x:Int):Does Tryz.prog 24 [prA m s,.sl (.ii nx),.int x] (.imm (.tup [frT (exB m s nx x).1,blT (exB m s nx x).2])):=by
 have hP:=Gn m s nx x
 cases hq:(prQ m s nx x).2
 ·have hF:=lJ hq
  rw [show prR (prQ m s nx x) = .tup [.one (.ptr 0 0),.one (.b (.val (.bool true)))] by unfold prR;rw [hq];rfl,show prO s.length (prQ m s nx x)=[.box [.own 1,.own 2,.b (.val (.int .i64 s.length))],.row 145 (.k 2 (prQ m s nx x).1.list),.row 86 (.k 4 (egs (prQ m s nx x).1.rows))] by unfold prO;rw [hq];rfl] at hP
  have hcy:exB m s nx x=exV (exO (egs (prQ m s nx x).1.rows)):=by unfold exB;rw [hq];rfl
  rw [hcy]
  generalize (prQ m s nx x).1=g at hP hF
  have hok:=vW (JG hF)
  have hex:=H7 (L:=g.list) rfl (QV hF) hF.pos (QW hF) hok.1 hok.2 s.length
  refine aC Tryz.func24 rfl Tryz.ntmps24 aX (fun _ _=>by kernel_rfl) rfl (Nat.le_of_ble_eq_true rfl) ?_
  intro M0 w0
  rw [Tryz.results24]
  refine ah ?_
  (refine .inr (.inl (bP [] (hP) rfl rfl rfl rfl trivial rfl rfl rfl rfl ?_));refine amC ?_)
  refine ah ?_
  refine aj amQ (fun hr =>?_) (fun hr =>?_)
  ·cases hr
  refine ah ?_
  ((try refine Or.inl ?_);refine ⟨_,(hex),.inl rfl,?_⟩;refine amC ?_)
  refine ah ?_
  refine ny ?_
  rfl
 ·rw [show prR (prQ m s nx x) = .tup [.one (.b (.val (.pointer none))),.one (.b (.val (.bool false)))] by unfold prR;rw [hq];rfl,show prO s.length (prQ m s nx x)=[] by unfold prO;rw [hq];rfl] at hP
  have hcy:exB m s nx x=((0,0),false):=by unfold exB;rw [hq];rfl
  rw [hcy]
  refine aC Tryz.func24 rfl Tryz.ntmps24 aX (fun _ _=>by kernel_rfl) rfl (Nat.le_of_ble_eq_true rfl) ?_
  intro M0 w0
  rw [Tryz.results24]
  refine ah ?_
  (refine .inr (.inl (bP [] (hP) rfl rfl rfl rfl trivial rfl rfl rfl rfl ?_));refine amC ?_)
  refine ah ?_
  refine aj amQ (fun hr =>?_) (fun hr =>?_)
  ·refine ah ?_
   refine ny ?_
   rfl
  ·simp at hr
end Go.Proofs.YtkcelmnbfbehbaaGreat
