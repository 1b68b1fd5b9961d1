/- The greatest quotient of cost and growth of a cycle, on the machine: the program's. Conditions: edges between nodes whose costs and growths are small. -/
import Derived.Test.YtlhdeofkhajigaaGreatGED
import Derived.Test.YtlhdeofkhajigaaGreatGFR
set_option linter.all false
set_option linter.unusedSimpArgs false
set_option linter.unusedVariables false
namespace Go.Proofs.YtlhdeofkhajigaaGreat
open Go Go.RowKit Am

theorem divisor_d (a b:Int) (ha:0≤a) (hb:0≤b) (ha2:a≤9223372036854775807) (hb2:b≤9223372036854775807):Does Tryz.prog 114 [.int a,.int b] (.imm (.int (Int.gcd a b))) :=
  does_val (v := .int .i64 (Int.gcd a b)) (fun _ _=>by kernel_rfl) fun M w us hm h=>by
    obtain ⟨u,us',rfl,k1,k2⟩:=args_inv h
    obtain ⟨u',us'',rfl,k3,k4⟩:=args_inv k2
    obtain rfl:=args_inv0 k4
    obtain rfl:u = .int .i64 a:=k1
    obtain rfl:u' = .int .i64 b:=k3
    exact (divisor_any w a b ha hb ha2 hb2).mono fun e w' ⟨h1,h2⟩=>⟨h1,h2.below _⟩
theorem ratW_d (e:List Int) (a b:Int) (h:0≤b*e.getD 2 0∧b*e.getD 2 0≤11900000000∧0≤a*e.getD 3 0∧a*e.getD 3 0≤11900000000):Does Tryz.prog 138 [fourE e,.lf (ip1 b),.lf (ip1 a)] (.imm (.int (wtR a b e))):=by
  obtain ⟨h1,h2,h3,h4⟩:=h
  refine spec_imm Tryz.func138 rfl Tryz.ntmps138 cfOK (fun _ _=>by kernel_rfl) rfl (Nat.le_of_ble_eq_true rfl) ?_
  intro M0 w0
  rw [Tryz.results138]
  refine amGo ?_
  (simp only [xe,simprocAttr];refine ⟨_,rfl,rfl,Imp.eq ?_⟩)
  rfl
/-- a search ends, or finds a cycle with a gain -/
theorem pos_ex {E:List (List Int)} {n:Nat} {wt:List Int→Int} (hE:edIn E n):∃ r,PosR E wt n (rxR wt E) r∧((r=(0,0,false)∧∃ L,PotE E wt L)∨∃ v es,Wk E v es v∧es.length≤n∧0<sumE wt es∧r=(sumE cstE es,sumE grwE es,true)):=by
  rcases ends_or (rxR wt E) n with ⟨t,ht⟩ | hn
  · exact ⟨_,.inl ⟨t,ht,rfl⟩,.inl ⟨rfl,_,ht.pot fun s t=>BI.gs hE⟩⟩
  · obtain ⟨v,h1,h2,h3,p,hp⟩:=hn.cyc hE fun s t=>BI.gs hE
    exact ⟨_,.inr ⟨hn,v,p,h1,h2,h3,hp,rfl⟩,.inr ⟨_,_,hp.wk,hp.len,hp.gain,rfl⟩⟩
def goR:Option (Int×Int)→Int×Int×Bool
  | none=>(0,0,false)
  | some (a,b)=>(a,b,true)
abbrev gR3 (r:Int×Int×Bool):AV := .tup [.one (.b (.val (.int .i64 r.1))),.one (.b (.val (.int .i64 r.2.1))),.one (.b (.val (.bool r.2.2)))]
set_option maxHeartbeats 2000000 in
theorem greatest_d {E:List (List Int)} {n:Nat} (hE:EgI E n) (hn0:0<n) (hc:∀ e∈E,0≤e.getD 2 0∧e.getD 2 0≤119∧0≤e.getD 3 0∧e.getD 3 0≤119) {o:Option (Int×Int)} (ho:ResE E o):Does Tryz.prog 109 [.int n,.sl (.k 4 E)] (.imm (gR3 (goR o))):=by
  have hB:EdB E n:=⟨hE.nle,hE.ed,hc⟩
  have hnl:=hE.nle
  refine spec_imm Tryz.func109 rfl Tryz.ntmps109 cfOK (fun _ _=>by kernel_rfl) rfl (Nat.le_of_ble_eq_true rfl) ?_
  intro M0 w0
  rw [Tryz.results109]
  refine amGo ?_
  refine awp_rounds (α:=Int×Int) (fun _=>[]) [0,1,7,8] (fun p=>[.box [.b (.val (.int .i64 p.1))],.box [.b (.val (.int .i64 p.2))]]) (fun p=>RatI E p.1 p.2) (fun p=>muR p.1 p.2) (0,1) (by ((try simp only [xk]);(repeat (refine leK_cons ?_ ?_;first | (exact amE) | rotate_left));(refine leK_nil ?_;exact (by rfl));(all_goals (try (simp only [xr,simprocAttr];try refine int_eq1 ?_))))) (RatI.first E) fun p hp => ?_
  obtain ⟨a,b⟩:=p
  have hp:RatI E a b:=hp
  have hna:=hp.na
  have hma:=hp.ma
  have hnb:=hp.nb
  have hmb:=hp.mb
  have hW:=wt_bd hc (a:=a) (b:=b) hna (by omega) (by omega) (by omega)
  obtain ⟨r,hr,hcase⟩:=pos_ex (wt:=wtR a b) hE.ed
  have hw:∀ k,k<E.length→Does Tryz.prog 138 [fourE (E.getD k []),.lf (ip1 b),.lf (ip1 a)] (.imm (.int (wtR a b (E.getD k [])))):=fun k hk=>ratW_d _ a b (hW _ (getD_mem hk)).1
  have hd:=positive_d hE hn0 hc hw (fun e he=>(hW e he).2) hr
  dsimp only
  simp only [xr,simprocAttr]
  refine amGo ?_
  ((try refine Or.inl ?_);refine ⟨_,(hd),.inl rfl,?_⟩;refine amC ?_)
  rcases hcase with ⟨rfl,L,hL⟩ | ⟨v,es,hwk,hlen,hgain,rfl⟩
  · obtain rfl:=res_one ho (hp.done hL)
    refine amGo ?_
    refine awp_cond amQ (fun hz => ?_) (fun hz => ?_)
    · refine amGo ?_
      (simp only [xe,simprocAttr];refine ⟨[_,_,_],⟨rfl,rfl,rfl,trivial⟩,rfl,Imp.eq ?_⟩)
      rfl
    · cases hz
  · have hbd:=hwk.bd hB
    have hnx:=hp.next hB hwk hlen hgain
    generalize sumE cstE es=C at *
    generalize sumE grwE es=G at *
    refine amGo ?_
    refine awp_cond amQ (fun hz => ?_) (fun hz => ?_)
    · cases hz
    refine amGo ?_
    refine awp_cond amQ (fun hg => ?_) (fun hg => ?_)
    · have hg:G=0:=of_decide_eq_true hg
      obtain rfl:=res_one ho (hnx.1 hg)
      refine amGo ?_
      (simp only [xe,simprocAttr];refine ⟨[_,_,_],⟨rfl,rfl,rfl,trivial⟩,rfl,Imp.eq ?_⟩)
      rfl
    · have hg:¬ G=0:=of_decide_eq_false hg
      obtain ⟨k1,k2,k3⟩:=hnx.2 (by omega)
      have hgp:=gcd_pos C G (by omega)
      have hgl:=gcd_le C G (by omega)
      have e1:C / (Int.gcd C G:Int)=qN C G:=by unfold qN;rw [Int.tdiv_eq_ediv_of_nonneg hbd.1]
      have e2:G / (Int.gcd C G:Int)=qD C G:=rfl
      refine amGo ?_
      ((try refine Or.inl ?_);refine ⟨_,(divisor_d C G hbd.1 hbd.2.2.1 (by omega) (by omega)),.inl rfl,?_⟩;refine amC ?_)
      (refine amB ?_;refine awp_anyG 0 [(6,[0]),(7,[1])] [0,1] [(6,[1]),(7,[0])] ?_;refine amNG ?_)
      refine amGo ?_
      rw [e1,e2]
      refine ⟨(qN C G,qD C G),k1,k2,.inl ?_⟩
      ((try simp only [xk]);(repeat (refine leK_cons ?_ ?_;first | (exact amE) | rotate_left));(refine leK_nil ?_;exact (by rfl));(all_goals (try (simp only [xr,simprocAttr];try refine int_eq1 ?_))))
end Go.Proofs.YtlhdeofkhajigaaGreat
/- Numbers of nodes by rounds over the edges, on the machine: the reference's. Conditions: a graph that is whole, and a ratio. -/
set_option linter.all false
set_option linter.unusedSimpArgs false
set_option linter.unusedVariables false
namespace Go.Proofs.YtlhdeofkhajigaaGreat
open Go Go.RowKit Am

/-- the requests by which nodes were reached -/
def chV (K v:Nat) (k:Int):Int:=if k<0 then 0 else k-((v*K:Nat):Int)
def chL (K:Nat) (l:List Int):List Int:=(List.range l.length).map fun v=>chV K v (l.getD v (-1))
theorem chL_len (K:Nat) (l:List Int):(chL K l).length=l.length:=by simp [chL]
theorem chL_at {K:Nat} {l:List Int} {v:Nat} (h:v<l.length):(chL K l).getD v 0=chV K v (l.getD v (-1)):=by
  unfold chL
  rw [rangeMap_getD _ _ h]
theorem chL_zero (K n:Nat):chL K (List.replicate n (-1))=List.replicate n 0:=by
  refine List.ext_getElem (by simp [chL]) fun j h1 h2 => ?_
  simp only [chL,List.getElem_map,List.getElem_range,List.getElem_replicate,rep_gD]
  rfl
theorem chL_set {K:Nat} {l:List Int} {v r:Nat} (hv:v<l.length):(chL K l).set v (r:Int)=chL K (l.set v ((v*K+r:Nat):Int)):=by
  refine List.ext_getElem (by simp [chL]) fun j h1 h2 => ?_
  rw [List.getElem_set]
  simp only [chL,List.getElem_map,List.getElem_range,set_getM]
  by_cases e:v=j
  · subst e
    rw [if_pos rfl,if_pos ⟨rfl,hv⟩]
    unfold chV
    rw [if_neg (by omega)]
    omega
  · rw [if_neg e,if_neg (by omega)]
theorem jx1_yes {E:List (List Int)} {wt:List Int→Int} {old:List Int} {k:Nat} {s:BF} (h:s.num.getD (efr (E.getD k [])) 0<wt (E.getD k [])+old.getD (eto (E.getD k [])) 0):jx1 wt E old k s=setB s k (E.getD k []) (wt (E.getD k [])+old.getD (eto (E.getD k [])) 0):=if_pos h
theorem jx1_no {E:List (List Int)} {wt:List Int→Int} {old:List Int} {k:Nat} {s:BF} (h:¬ s.num.getD (efr (E.getD k [])) 0<wt (E.getD k [])+old.getD (eto (E.getD k [])) 0):jx1 wt E old k s=s:=if_neg h
/-- what the reference's search hands back -/
def RiseR (R:BF→BF) (n:Nat) (s:BF):Prop:=(∃ t,EndsAt R n t∧s=rnd R n (t+1))∨(NeverEnds R n∧s=rnd R n (n+1))
theorem rise_ex (R:BF→BF) (n:Nat):∃ s,RiseR R n s:=by
  rcases ends_or R n with ⟨t,h⟩ | h
  · exact ⟨_,.inl ⟨t,h,rfl⟩⟩
  · exact ⟨_,.inr ⟨h,rfl⟩⟩
abbrev clA (K:Nat) (s:BF):AV := .tv (.agg [.b (.sl (.ints s.num)),.b (.sl (.ints (chL K s.by_))),.b (.val (.int .i64 s.last))])
abbrev bxG (g:PrT):Ob := .box [.b (.sl (.k 2 g.list)),.b (.sl (.ki 3 (eg3 g.rows))),.b (.val (.bool false))]
abbrev bxR (a:Int×Int):Ob := .box [.b (.val (.int .i64 a.1)),.b (.val (.int .i64 a.2))]
abbrev jxS (E:List (List Int)) (wt:List Int→Int) (n t k:Nat):BF:=jxN wt E (rnd (jxR wt E) n t).num (newR (rnd (jxR wt E) n t)) k
set_option maxRecDepth 8000 in
set_option maxHeartbeats 4000000 in
theorem l9Rise_h {m s:List (List Int)} {g:PrT} (hF:PrFull m s g) {a:Int×Int} (ha:ratioB a=true) {Z:BF} (hS:RiseR (jxR (wtR a.1 a.2) (egs g.rows)) g.list.length Z) :
    DoesH Tryz.prog 64 [grA g,frA a] [] [] (.tv (.agg [.own 0,.own 1,.b (.val (.int .i64 Z.last))])) [.row 3 (.ints Z.num),.row 3 (.ints (chL s.length Z.by_))]:=by
  obtain ⟨n,hn⟩:∃ n,n=g.list.length:=⟨_,rfl⟩
  obtain ⟨E,hEq⟩:∃ E,E=egs g.rows:=⟨_,rfl⟩
  obtain ⟨K,hK⟩:∃ K,K=s.length:=⟨_,rfl⟩
  obtain ⟨wt,hwt⟩:∃ wt,wt=wtR a.1 a.2:=⟨_,rfl⟩
  have hEI:=eg_I hF
  have hc:=eg_c hF
  obtain ⟨h1,h2,h3,h4⟩:=ratio_ok ha
  have hW:=wt_bd hc h1 h2 (show 0≤a.2 by omega) (show a.2≤100000000 by omega)
  have hl:=prob_len hF.prob
  have hrl:=hF.rlen
  have hpos:=hF.pos
  have hle:=hF.le
  have hin:=fun j r hj hr=>eg_in hF (j:=j) (r:=r) hj hr
  have hlenE:(egs g.rows).length=g.list.length*s.length:=by rw [egs_len hF.row,hF.rlen]
  have hrow3:∀ j,j<g.list.length→((eg3 g.rows).getD j []).length=s.length:=fun j hj=>by
    have e:(eg3 g.rows).getD j []=(g.rows.getD j []).map c3:=by
      unfold eg3
      rw [List.getD_eq_getElem?_getD,List.getD_eq_getElem?_getD,List.getElem?_map]
      cases g.rows[j]? <;> rfl
    rw [e,List.length_map,hF.row j (by omega)]
  have he3:∀ j r,j<g.list.length→r<s.length→((eg3 g.rows).getD j []).getD r []=c3 ((egs g.rows).getD (j*s.length+r) []):=fun j r hj hr=>by
    have hr2:=hF.row j (by omega)
    rw [egs_at hF.row j r (by omega) hr]
    have e:(eg3 g.rows).getD j []=(g.rows.getD j []).map c3:=by
      unfold eg3
      rw [List.getD_eq_getElem?_getD,List.getD_eq_getElem?_getD,List.getElem?_map]
      cases g.rows[j]? <;> rfl
    rw [e]
    generalize g.rows.getD j []=row at hr2
    rw [List.getD_eq_getElem?_getD,List.getD_eq_getElem?_getD,List.getElem?_map,List.getElem?_eq_getElem (show r<row.length by omega)]
    rfl
  have hl3:(eg3 g.rows).length=g.list.length:=by simp [eg3,hrl]
  rw [← hn,← hEq,← hwt] at hS
  simp only [← hn,← hEq,← hwt,← hK] at hEI hc hW hl hpos hle hin hlenE hrow3 he3 hl3
  rw [← hK]
  have hbi:=fun t=>rnd_bi (fun s t=>BI.jac hEI.ed (wt:=wt)) t
  have hbd:=rndj_bd (W:=100000000000) hEI.ed (by omega) fun e he=>(hW e he).2.2
  clear hF
  subst hn
  have hnum0:(rnd (jxR wt E) g.list.length 0).num=List.replicate g.list.length 0:=rfl
  have hby0:chL K (rnd (jxR wt E) g.list.length 0).by_=List.replicate g.list.length 0:=chL_zero K _
  refine spec_hB Tryz.func64 rfl Tryz.ntmps64 cfOK (fun _ _=>by kernel_rfl) rfl rfl rfl ?_
  intro M0 w0 S φ0
  rw [Tryz.results64]
  refine amGo ?_
  (refine amB ?_;refine awp_anyG 3 [(3,[3]),(7,[4]),(9,[5]),(10,[5])] [3,4,5] [(3,[4,5]),(7,[3,5]),(8,[5]),(9,[3,4]),(10,[])] ?_;refine amNG ?_)
  refine amGo ?_
  refine awp_rounds (α:=Nat) (fun t=>[(6,true,.int t)]) [2,3,4,5] (fun t=>[bxG g,bxR a,.box [.b (.val (.slice none 0 0)),.b (.val (.slice none 0 0)),.b (.val (.int .i64 0))],.row 3 (.ints (rnd (jxR wt E) g.list.length t).num),.row 3 (.ints (chL K (rnd (jxR wt E) g.list.length t).by_)),.box [.own 3,.own 4,.b (.val (.int .i64 (rnd (jxR wt E) g.list.length t).last))]]) (fun t=>t≤g.list.length+1∧∀ i,i<t→¬ (rnd (jxR wt E) g.list.length (i+1)).last<0) (fun t=>g.list.length+1-t) 0 (by ((try simp only [xk]);(repeat (refine leK_cons ?_ ?_;first | (exact amE) | rotate_left));(refine leK_nil ?_;exact (by rw [hnum0,hby0];rfl));(all_goals (try (simp only [xr,simprocAttr];try refine int_eq1 ?_))))) ⟨by omega,fun i hi=>by omega⟩ fun t ht => ?_
  obtain ⟨ht,hls⟩:=ht
  have hb:=hbi t
  have hbt:=hbd t
  have hb1:=hb.bl.num
  have hb2:=hb.bl.byl
  have hb0:(t:Int)*100000000000≤100000000000000:=by omega
  have hbc:=chL_len K (rnd (jxR wt E) g.list.length t).by_
  simp only [xr,simprocAttr]
  refine amGo ?_
  refine awp_cond amQ (fun hlt => ?_) (fun hlt => ?_)
  · have hlt:=of_decide_eq_true hlt
    have ht0:jxS E wt g.list.length t 0=newR (rnd (jxR wt E) g.list.length t):=rfl
    refine amGo ?_
    refine awp_rounds (α:=Nat) (fun i=>[(8,true,.int i)]) [2,3,4,5,6,7] (fun i=>[bxG g,bxR a,.box [.b (.val (.slice none 0 0)),.b (.val (.slice none 0 0)),.b (.val (.int .i64 0))],.row 3 (.ints (rnd (jxR wt E) g.list.length t).num),.row 3 (.ints (chL K (jxS E wt g.list.length t (i*K)).by_)),.box [.own 3,.own 4,.b (.val (.int .i64 (jxS E wt g.list.length t (i*K)).last))],.row 3 (.ints (jxS E wt g.list.length t (i*K)).num)]) (fun i=>i≤g.list.length) (fun i=>g.list.length-i) 0 (by rw [Nat.zero_mul,ht0];((try simp only [xk]);(repeat (refine leK_cons ?_ ?_;first | (exact amE) | rotate_left));(refine leK_nil ?_;exact (by rfl));(all_goals (try (simp only [xr,simprocAttr];try refine int_eq1 ?_))))) (Nat.zero_le _) fun i hi => ?_
    simp only [xr,simprocAttr]
    refine amGo ?_
    refine awp_cond amQ (fun hic => ?_) (fun hic => ?_)
    · have hic:=of_decide_eq_true hic
      have hi':i<g.list.length:=by omega
      have hrw:=hrow3 i hi'
      refine amGo ?_
      refine awp_rounds (α:=Nat) (fun r=>[(9,true,.int r)]) [2,3,4,5,6,7,8] (fun r=>[bxG g,bxR a,.box [.b (.val (.slice none 0 0)),.b (.val (.slice none 0 0)),.b (.val (.int .i64 0))],.row 3 (.ints (rnd (jxR wt E) g.list.length t).num),.row 3 (.ints (chL K (jxS E wt g.list.length t (i*K+r)).by_)),.box [.own 3,.own 4,.b (.val (.int .i64 (jxS E wt g.list.length t (i*K+r)).last))],.row 3 (.ints (jxS E wt g.list.length t (i*K+r)).num)]) (fun r=>r≤K) (fun r=>K-r) 0 (by ((try simp only [xk]);(repeat (refine leK_cons ?_ ?_;first | (exact amE) | rotate_left));(refine leK_nil ?_;exact (by rfl));(all_goals (try (simp only [xr,simprocAttr];try refine int_eq1 ?_))))) (Nat.zero_le _) fun r hr => ?_
      simp only [xr,simprocAttr]
      refine amGo ?_
      refine awp_cond amQ (fun hrc => ?_) (fun hrc => ?_)
      · have hrc:=of_decide_eq_true hrc
        have hr':r<K:=by omega
        have hk:i*K+r<E.length:=by
          rw [hlenE]
          have h5:=Nat.mul_le_mul_right K (show i+1≤g.list.length by omega)
          rw [Nat.succ_mul] at h5
          omega
        obtain ⟨v,x,y,h5,h6,h7⟩:=hin i r hi' hr'
        have hW5:=(hW _ (getD_mem hk)).1
        have hW6:=(hW _ (getD_mem hk)).2
        have hS1:=jxN_bl (wt:=wt) (old:=(rnd (jxR wt E) g.list.length t).num) hb.bl.fresh (i*K+r) (by omega)
        have hS2:=hS1.num
        have hS3:=hS1.byl
        have hS4:=chL_len K (jxS E wt g.list.length t (i*K+r)).by_
        have hnx:jxS E wt g.list.length t (i*K+(r+1))=jx1 wt E (rnd (jxR wt E) g.list.length t).num (i*K+r) (jxS E wt g.list.length t (i*K+r)):=rfl
        have hov:=hbt v
        have hon:=hb.nn v
        have h3r:=he3 i r hi' hr'
        have hgd:=l9Gain_d (E.getD (i*K+r) []) a hW5.1 (by omega) hW5.2.2.1 (by omega)
        have hgw:gainC a.1 a.2 (E.getD (i*K+r) [])=wt (E.getD (i*K+r) []):=by rw [hwt];rfl
        rw [hgw] at hgd
        unfold nbN at hov hon
        have hef:efr (E.getD (i*K+r) [])=i:=by rw [h5];exact Int.toNat_natCast i
        have het:eto (E.getD (i*K+r) [])=v:=by rw [h5];exact Int.toNat_natCast v
        have hy1:=jx1_yes (wt:=wt) (E:=E) (k:=i*K+r) (s:=jxS E wt g.list.length t (i*K+r)) (old:=(rnd (jxR wt E) g.list.length t).num)
        have hn1:=jx1_no (wt:=wt) (E:=E) (k:=i*K+r) (s:=jxS E wt g.list.length t (i*K+r)) (old:=(rnd (jxR wt E) g.list.length t).num)
        rw [hef,het] at hy1 hn1
        rw [← hnx] at hy1 hn1
        have hto:(c3 (E.getD (i*K+r) [])).getD 0 0=(v:Int):=by rw [h5];rfl
        change BL E g.list.length (jxS E wt g.list.length t (i*K+r)) at hS1
        change (jxS E wt g.list.length t (i*K+r)).num.length=_ at hS2
        change (jxS E wt g.list.length t (i*K+r)).by_.length=_ at hS3
        generalize jxS E wt g.list.length t (i*K+r)=T at *
        rw [hto] at hgd
        refine amGo ?_
        simp only [h3r,hto]
        ((try refine Or.inl ?_);refine ⟨_,(hgd),.inl rfl,?_⟩;refine amC ?_)
        refine amGo ?_
        refine awp_cond amQ (fun hx => ?_) (fun hx => ?_)
        · have hx:=of_decide_eq_true hx
          have hS5:(chL K T.by_).set i (r:Int)=chL K (T.by_.set i ((i*K+r:Nat):Int)):=chL_set (by omega)
          have hT:jxS E wt g.list.length t (i*K+(r+1))=⟨T.num.set i (wt (E.getD (i*K+r) [])+(rnd (jxR wt E) g.list.length t).num.getD v 0),T.by_.set i ((i*K+r:Nat):Int),(i:Int)⟩:=by
            rw [hy1 hx]
            unfold setB
            rw [hef]
          refine amGo ?_
          refine ⟨r+1,by omega,by omega,.inl ?_⟩
          ((try simp only [xk]);(repeat (refine leK_cons ?_ ?_;first | (exact amE) | rotate_left));(refine leK_nil ?_;exact (by rw [hT,← hS5]<;>rfl));(all_goals (try (simp only [xr,simprocAttr];try refine int_eq1 ?_))))
        · have hx:=of_decide_eq_false hx
          have hT:=hn1 hx
          refine amGo ?_
          refine ⟨r+1,by omega,by omega,.inl ?_⟩
          ((try simp only [xk]);(repeat (refine leK_cons ?_ ?_;first | (exact amE) | rotate_left));(refine leK_nil ?_;exact (by rw [hT]<;>rfl));(all_goals (try (simp only [xr,simprocAttr];try refine int_eq1 ?_))))
      · have hrc:=of_decide_eq_false hrc
        obtain rfl:r=K:=by omega
        refine amGo ?_
        refine ⟨i+1,by omega,by omega,.inl ?_⟩
        ((try simp only [xk]);(repeat (refine leK_cons ?_ ?_;first | (exact amE) | rotate_left));(refine leK_nil ?_;exact (by rw [Nat.succ_mul]<;>rfl));(all_goals (try (simp only [xr,simprocAttr];try refine int_eq1 ?_))))
    · have hic:=of_decide_eq_false hic
      obtain rfl:i=g.list.length:=by omega
      have hrt:jxS E wt g.list.length t (g.list.length*K)=rnd (jxR wt E) g.list.length (t+1):=by rw [← hlenE];rfl
      rw [hrt]
      refine amGo ?_
      refine awp_cond amQ (fun hlz => ?_) (fun hlz => ?_)
      · have hlz:=of_decide_eq_true hlz
        have hS0:Z=rnd (jxR wt E) g.list.length (t+1):=by
          rcases hS with ⟨u,h,h'⟩ | ⟨h,_⟩
          · have:u=t:=by
              rcases Nat.lt_trichotomy u t with h8 | h8 | h8
              · exact (hls u h8 h.2.1).elim
              · exact h8
              · exact (h.2.2 t h8 hlz).elim
            rw [h',this]
          · exact (h t (by omega) hlz).elim
        subst hS0
        refine amGo ?_
        (simp only [ends_normal,ends_ret];refine retH_1 [6,4] rfl ⟨rfl,rfl,trivial⟩ rfl rfl rfl rfl ⟨amK,rfl⟩ ?_;try rfl)
      · have hlz:=of_decide_eq_false hlz
        refine amB ?_
        (refine awp_frz 3 rfl ?_;simp only [xz,simprocAttr])
        (refine awp_mv 3 6 rfl rfl (by decide) rfl rfl ?_;simp only [xm,simprocAttr])
        refine amGo ?_
        refine ⟨t+1,by omega,fun j hj => ?_,by omega,.inr ⟨6,Nat.le_of_ble_eq_true rfl,leT_of ?_ rfl rfl rfl⟩⟩
        · by_cases e:j=t
          · subst e
            exact hlz
          · exact hls j (by omega)
        · ((try simp only [xk]);(repeat (refine leK_cons ?_ ?_;first | (exact amE) | rotate_left));(refine leK_nil ?_;exact (by rfl));(all_goals (try (simp only [xr,simprocAttr];try refine int_eq1 ?_))))
  · have hlt:=of_decide_eq_false hlt
    obtain rfl:t=g.list.length+1:=by omega
    have hS0:Z=rnd (jxR wt E) g.list.length (g.list.length+1):=by
      rcases hS with ⟨u,h,h'⟩ | ⟨_,h⟩
      · exact (hls u (by have:=h.1;omega) h.2.1).elim
      · exact h
    subst hS0
    refine amGo ?_
    (simp only [ends_normal,ends_ret];refine retH_1 [3,4] rfl ⟨rfl,rfl,trivial⟩ rfl rfl rfl rfl ⟨amK,rfl⟩ ?_;try rfl)
theorem l9Rise_d {m s:List (List Int)} {g:PrT} (hF:PrFull m s g) {a:Int×Int} (ha:ratioB a=true) {S:BF} (hS:RiseR (jxR (wtR a.1 a.2) (egs g.rows)) g.list.length S) :
    Does Tryz.prog 64 [grA g,frA a] (.imm (clA s.length S)):=imm_of (l9Rise_h hF ha hS)
end Go.Proofs.YtlhdeofkhajigaaGreat
/- The greatest quotient of cost and growth of a cycle, on the machine: the reference's. Conditions: a graph that is whole. -/
set_option linter.all false
set_option linter.unusedSimpArgs false
set_option linter.unusedVariables false
namespace Go.Proofs.YtlhdeofkhajigaaGreat
open Go Go.RowKit Am

theorem c3_at {m s:List (List Int)} {g:PrT} (hF:PrFull m s g) {j r:Nat} (hj:j<g.list.length) (hr:r<s.length):((eg3 g.rows).getD j []).getD r []=c3 ((egs g.rows).getD (j*s.length+r) []):=by
  have hrl:=hF.rlen
  have hr2:=hF.row j (by omega)
  rw [egs_at hF.row j r (by omega) hr]
  have e:(eg3 g.rows).getD j []=(g.rows.getD j []).map c3:=by
    unfold eg3
    rw [List.getD_eq_getElem?_getD,List.getD_eq_getElem?_getD,List.getElem?_map]
    cases g.rows[j]? <;> rfl
  rw [e]
  generalize g.rows.getD j []=row at hr2
  rw [List.getD_eq_getElem?_getD,List.getD_eq_getElem?_getD,List.getElem?_map,List.getElem?_eq_getElem (show r<row.length by omega)]
  rfl
theorem row3_len {m s:List (List Int)} {g:PrT} (hF:PrFull m s g) {j:Nat} (hj:j<g.list.length):((eg3 g.rows).getD j []).length=s.length:=by
  have hrl:=hF.rlen
  have e:(eg3 g.rows).getD j []=(g.rows.getD j []).map c3:=by
    unfold eg3
    rw [List.getD_eq_getElem?_getD,List.getD_eq_getElem?_getD,List.getElem?_map]
    cases g.rows[j]? <;> rfl
  rw [e,List.length_map,hF.row j (by omega)]
/-- a chosen edge is told by its request -/
theorem nb_ch {m s:List (List Int)} {g:PrT} (hF:PrFull m s g) {S:BF} (hb:BL (egs g.rows) g.list.length S) {wt:List Int→Int} (hf:Fit (egs g.rows) wt (nbN S) (nbX (egs g.rows) S.by_)) {u:Nat} (h:nbX (egs g.rows) S.by_ u≠none) :
    u<g.list.length∧∃ r,r<s.length∧(chL s.length S.by_).getD u 0=(r:Int)∧edN (nbX (egs g.rows) S.by_) u=(egs g.rows).getD (u*s.length+r) []∧stepN (nbX (egs g.rows) S.by_) u=eto ((egs g.rows).getD (u*s.length+r) []):=by
  have hl:=prob_len hF.prob
  obtain ⟨h1,h2,h3,h4,h5⟩:=nb_at hb h
  have hlen:(egs g.rows).length=g.list.length*s.length:=by rw [egs_len hF.row,hF.rlen]
  obtain ⟨k,hk⟩:∃ k:Nat,S.by_.getD u 0=k:=⟨(S.by_.getD u 0).toNat,by omega⟩
  rw [hk,Int.toNat_natCast] at h4 h5
  have hkl:k<g.list.length*s.length:=by omega
  have hdm:k / s.length*s.length+k % s.length=k:=by rw [Nat.mul_comm];exact Nat.div_add_mod _ _
  have hmod:=Nat.mod_lt k (show 0<s.length by omega)
  have hdiv:k / s.length<g.list.length:=Nat.div_lt_of_lt_mul (by rw [Nat.mul_comm];exact hkl)
  obtain ⟨k',a,b,h6,_⟩:=eg_in hF hdiv hmod
  rw [hdm] at h6
  have hu:k / s.length=u:=by
    cases he:nbX (egs g.rows) S.by_ u with
    | none=>exact (h he).elim
    | some e =>
      have h7:=(hf.mem u e he).2
      have h8:edN (nbX (egs g.rows) S.by_) u=e:=by unfold edN;rw [he];rfl
      rw [h4,h6] at h8
      rw [← h8] at h7
      have h9:((k / s.length:Nat):Int).toNat=u:=h7
      rw [Int.toNat_natCast] at h9
      exact h9
  rw [hu] at hdm
  refine ⟨h1,k % s.length,hmod,?_,?_,?_⟩
  · have hul:u<S.by_.length:=by rw [hb.byl];exact h1
    rw [chL_at hul,getM hul,hk]
    unfold chV
    rw [if_neg (by omega)]
    generalize k % s.length=r at hdm ⊢
    generalize u*s.length=q at hdm ⊢
    omega
  · rw [hdm];exact h4
  · rw [hdm];exact h5
set_option maxHeartbeats 2000000 in
theorem l9Loop_d {m s:List (List Int)} {g:PrT} (hF:PrFull m s g) {wt:List Int→Int} {S:BF} {v p:Nat} (hb:BL (egs g.rows) g.list.length S) (hf:Fit (egs g.rows) wt (nbN S) (nbX (egs g.rows) S.by_)) (hv1:S.last=v) (hv3:∀ j,j≤g.list.length→nbX (egs g.rows) S.by_ (itr (stepN (nbX (egs g.rows) S.by_)) j v)≠none)
    (hcy:CycN (egs g.rows) wt g.list.length S.by_ (itr (stepN (nbX (egs g.rows) S.by_)) g.list.length v) p):Does Tryz.prog 110 [grA g,clA s.length S] (.imm (.tup [.one (.b (.val (.int .i64 (sumE cstE (runE (nbX (egs g.rows) S.by_) (itr (stepN (nbX (egs g.rows) S.by_)) g.list.length v) p))))),.one (.b (.val (.int .i64 (sumE grwE (runE (nbX (egs g.rows) S.by_) (itr (stepN (nbX (egs g.rows) S.by_)) g.list.length v) p)))))])):=by
  have hle:=hF.le
  have hrl:=hF.rlen
  have hc:=eg_c hF
  have hl3:(eg3 g.rows).length=g.list.length:=by simp [eg3,hrl]
  have hcl:=chL_len s.length S.by_
  have hbl2:=hb.byl
  have hl:=prob_len hF.prob
  refine spec_imm Tryz.func110 rfl Tryz.ntmps110 cfOK (fun _ _=>by kernel_rfl) rfl (Nat.le_of_ble_eq_true rfl) ?_
  intro M0 w0
  rw [Tryz.results110]
  refine amGo ?_
  rw [hv1]
  refine awp_rounds (α:=Nat) (fun i=>[(7,true,.int i),(6,true,.int (itr (stepN (nbX (egs g.rows) S.by_)) i v:Nat))]) [2,3,4,5] (fun _=>[bxG g,.box [.b (.sl (.ints S.num)),.b (.sl (.ints (chL s.length S.by_))),.b (.val (.int .i64 v))]]) (fun i=>i≤g.list.length) (fun i=>g.list.length-i) 0 (by ((try simp only [xk]);(repeat (refine leK_cons ?_ ?_;first | (exact amE) | rotate_left));(refine leK_nil ?_;exact (by rfl));(all_goals (try (simp only [xr,simprocAttr];try refine int_eq1 ?_))))) (Nat.zero_le _) fun i hi => ?_
  obtain ⟨h1,r,h2,h3,-,h5⟩:=nb_ch hF hb hf (hv3 i hi)
  have h6:itr (stepN (nbX (egs g.rows) S.by_)) (i+1) v=eto ((egs g.rows).getD (itr (stepN (nbX (egs g.rows) S.by_)) i v*s.length+r) []):=h5
  have hc3:=c3_at hF h1 h2
  have hr3:=row3_len hF h1
  obtain ⟨k,x,y,h7,h8,h9⟩:=eg_in hF h1 h2
  simp only [xr,simprocAttr]
  refine amGo ?_
  refine awp_cond amQ (fun hic => ?_) (fun hic => ?_)
  · have hic:=of_decide_eq_true hic
    generalize itr (stepN (nbX (egs g.rows) S.by_)) i v=u at *
    rw [h7] at hc3 h6
    refine amGo ?_
    rw [h3,Int.toNat_natCast,hc3]
    refine ⟨i+1,by omega,by omega,.inl ?_⟩
    ((try simp only [xk]);(repeat (refine leK_cons ?_ ?_;first | (exact amE) | rotate_left));(refine leK_nil ?_;exact (by rfl));(all_goals (try (simp only [xr,simprocAttr];try refine int_eq1 ?_))))
    rw [h6]
    rfl
  · have hic:=of_decide_eq_false hic
    obtain rfl:i=g.list.length:=by omega
    have hsm:=hcy.some
    have hp1:=hcy.p1
    have hpn:=hcy.pn
    have hbk:=hcy.back
    have hfb:=hcy.first
    clear h1 h2 h3 h5 h6 hc3 hr3 h7 h8 h9
    generalize itr (stepN (nbX (egs g.rows) S.by_)) g.list.length v=c at *
    refine amGo ?_
    refine awp_rounds (α:=Nat) (fun j=>[(10,true,.int j),(6,true,.int (itr (stepN (nbX (egs g.rows) S.by_)) j c:Nat)),(8,true,.int (sumE cstE (runE (nbX (egs g.rows) S.by_) c j))),(9,true,.int (sumE grwE (runE (nbX (egs g.rows) S.by_) c j)))]) [2,3,11] (fun _=>[bxG g,.box [.b (.sl (.ints S.num)),.b (.sl (.ints (chL s.length S.by_))),.b (.val (.int .i64 v))]]) (fun j=>j≤p) (fun j=>p-j) 0 (by ((try simp only [xk]);(repeat (refine leK_cons ?_ ?_;first | (exact amE) | rotate_left));(refine leK_nil ?_;exact (by rfl));(all_goals (try (simp only [xr,simprocAttr];try refine int_eq1 ?_))))) (Nat.zero_le _) fun j hj => ?_
    obtain ⟨h1,r,h2,h3,h4,h5⟩:=nb_ch hF hb hf (hsm j)
    have hcb:=cyc_bd hb hc hsm j
    have h6:itr (stepN (nbX (egs g.rows) S.by_)) (j+1) c=eto ((egs g.rows).getD (itr (stepN (nbX (egs g.rows) S.by_)) j c*s.length+r) []):=h5
    have hc3:=c3_at hF h1 h2
    have hr3:=row3_len hF h1
    obtain ⟨k,x,y,h7,h8,h9⟩:=eg_in hF h1 h2
    rw [h7] at hc3 h6 h4
    have e1:sumE cstE (runE (nbX (egs g.rows) S.by_) c (j+1))=sumE cstE (runE (nbX (egs g.rows) S.by_) c j)+x:=by
      rw [runE,sumE_app,h4]
      simp [sumE,cstE]
    have e2:sumE grwE (runE (nbX (egs g.rows) S.by_) c (j+1))=sumE grwE (runE (nbX (egs g.rows) S.by_) c j)+y:=by
      rw [runE,sumE_app,h4]
      simp [sumE,grwE]
    have hq1:j=p→j≠0∧itr (stepN (nbX (egs g.rows) S.by_)) j c=c:=fun e=>⟨by omega,by rw [e];exact hbk⟩
    have hq2:j≠p→j=0∨itr (stepN (nbX (egs g.rows) S.by_)) j c≠c:=fun e=>by
      rcases Nat.eq_zero_or_pos j with h | h
      · exact .inl h
      · exact .inr (hfb j h (by omega))
    generalize itr (stepN (nbX (egs g.rows) S.by_)) j c=u at *
    generalize hC:sumE cstE (runE (nbX (egs g.rows) S.by_) c j)=C at *
    generalize hG:sumE grwE (runE (nbX (egs g.rows) S.by_) c j)=G at *
    simp only [xr,simprocAttr]
    refine amGo ?_
    refine awp_cond amQ (fun hq => ?_) (fun hq => ?_)
    · have hjp:j≠p:=fun e=>by
        obtain ⟨k1,k2⟩:=hq1 e
        subst k2
        simp at hq
        omega
      (refine amB ?_;refine awp_anyM [2] 13 [] (by kernel_rfl) (by kernel_rfl) (by kernel_rfl) (by kernel_rfl) (by kernel_rfl) ?_;refine amM ?_)
      have t0:(c3 [(u:Int),(k:Int),x,y]).getD 0 0=(k:Int):=rfl
      have t1:(c3 [(u:Int),(k:Int),x,y]).getD 1 0=x:=rfl
      have t2:(c3 [(u:Int),(k:Int),x,y]).getD 2 0=y:=rfl
      have h6':(k:Int)=(eto [(u:Int),(k:Int),x,y]:Nat):=by show (k:Int)=(((k:Int)).toNat:Int);omega
      have h6'':(k:Int)=((itr (stepN (nbX (egs g.rows) S.by_)) (j+1) c:Nat):Int):=by rw [h6];exact h6'
      have f1:=e1.symm
      have f2:=e2.symm
      rw [h3,Int.toNat_natCast,hc3]
      simp only [t0,t1,t2]
      refine amGo ?_
      refine ⟨j+1,by omega,by omega,.inr ⟨2,Nat.le_of_ble_eq_true rfl,leT_of ?_ rfl rfl rfl⟩⟩
      ((try simp only [xk]);(repeat (refine leK_cons ?_ ?_;first | (exact amE) | rotate_left));(refine leK_nil ?_;exact (by rfl));(all_goals (try (simp only [xr,simprocAttr];try refine int_eq1 ?_))))
    · have hjp:j=p:=Classical.byContradiction fun e=>by
        rcases hq2 e with k1 | k1
        · subst k1
          simp at hq
        · simp at hq
          omega
      subst hjp
      refine amGo ?_
      (simp only [xe,simprocAttr];refine ⟨[_,_],⟨rfl,rfl,trivial⟩,rfl,Imp.eq ?_⟩)
      rw [hC,hG]
end Go.Proofs.YtlhdeofkhajigaaGreat
/- ExactRatio, on the machine: the program's and the reference's. Conditions: none. -/
set_option linter.all false
set_option linter.unusedSimpArgs false
set_option linter.unusedVariables false
namespace Go.Proofs.YtlhdeofkhajigaaGreat
open Go Go.RowKit Am

def cmpV (x y:Int):Int:=if x<y then -1 else if y<x then 1 else 0
theorem l2Cmp_d (a b:Int×Int) (h1:I64 (a.1*b.2)) (h2:I64 (b.1*a.2)):Does Tryz.prog 111 [frA a,frA b] (.imm (.int (cmpV (a.1*b.2) (b.1*a.2)))):=by
  unfold I64 at h1 h2
  refine spec_imm Tryz.func111 rfl Tryz.ntmps111 cfOK (fun _ _=>by kernel_rfl) rfl (Nat.le_of_ble_eq_true rfl) ?_
  intro M0 w0
  rw [Tryz.results111]
  refine amGo ?_
  generalize a.1*b.2=x at *
  generalize b.1*a.2=y at *
  refine awp_cond amQ (fun hc => ?_) (fun hc => ?_)
  · have hc:=of_decide_eq_true hc
    refine amGo ?_
    (simp only [xe,simprocAttr];refine ⟨_,rfl,rfl,Imp.eq ?_⟩)
    unfold cmpV
    rw [if_pos hc]
  · have hc:=of_decide_eq_false hc
    refine amGo ?_
    refine awp_cond amQ (fun hd => ?_) (fun hd => ?_)
    · have hd:=of_decide_eq_true hd
      refine amGo ?_
      (simp only [xe,simprocAttr];refine ⟨_,rfl,rfl,Imp.eq ?_⟩)
      unfold cmpV
      rw [if_neg hc,if_pos hd]
    · have hd:=of_decide_eq_false hd
      refine amGo ?_
      (simp only [xe,simprocAttr];refine ⟨_,rfl,rfl,Imp.eq ?_⟩)
      unfold cmpV
      rw [if_neg hc,if_neg hd]
/-- what is handed back of a greatest quotient -/
def exV:Option (Int×Int)→(Int×Int)×Bool
  | none=>((0,0),false)
  | some (a,b)=>((a,b),true)
theorem rat_ok {E:List (List Int)} {a b:Int} (h:RatI E a b):ratioB (a,b)=true:=by
  unfold ratioB
  rw [Bool.and_eq_true,frB_iff,decide_eq_true_eq]
  have h1:=h.na
  have h2:=h.ma
  have h3:=h.nb
  have h4:=h.mb
  exact ⟨⟨h3,by show b≤_;omega,by show _≤a;omega,by show a≤_;omega,h.low⟩,h1⟩
set_option maxHeartbeats 4000000 in
theorem l9Exact_d {m s:List (List Int)} {g:PrT} (hF:PrFull m s g) {o:Option (Int×Int)} (ho:ResE (egs g.rows) o):Does Tryz.prog 62 [grA g] (.imm (.tup [frT (exV o).1,blT (exV o).2])):=by
  have hE:=eg_I hF
  have hB:=eg_B hF
  have hle:=hF.le
  refine spec_imm Tryz.func62 rfl Tryz.ntmps62 cfOK (fun _ _=>by kernel_rfl) rfl (Nat.le_of_ble_eq_true rfl) ?_
  intro M0 w0
  rw [Tryz.results62]
  refine amGo ?_
  refine awp_rounds (α:=Int×Int) (fun _=>[]) [1,2,3,4] (fun p=>[bxG g,.box [.b (.val (.int .i64 0)),.b (.val (.int .i64 0))],bxR p]) (fun p=>RatI (egs g.rows) p.1 p.2) (fun p=>muR p.1 p.2) (0,1) (by ((try simp only [xk]);(repeat (refine leK_cons ?_ ?_;first | (exact amE) | rotate_left));(refine leK_nil ?_;exact (by rfl));(all_goals (try (simp only [xr,simprocAttr];try refine int_eq1 ?_))))) (RatI.first _) fun p hp => ?_
  obtain ⟨a,b⟩:=p
  have hp:RatI (egs g.rows) a b:=hp
  obtain ⟨S,hS⟩:=rise_ex (jxR (wtR a b) (egs g.rows)) g.list.length
  have hR:=l9Rise_d hF (rat_ok hp) hS
  have hcase:(S.last<0∧∃ L,PotE (egs g.rows) (wtR a b) L)∨(¬ S.last<0∧∃ v es,Wk (egs g.rows) v es v∧es.length≤g.list.length∧0<sumE (wtR a b) es∧Does Tryz.prog 110 [grA g,clA s.length S] (.imm (.tup [.one (.b (.val (.int .i64 (sumE cstE es)))),.one (.b (.val (.int .i64 (sumE grwE es))))]))):=by
    rcases hS with ⟨t,ht,rfl⟩ | ⟨hn,rfl⟩
    · exact .inl ⟨ht.2.1,_,ht.pot fun s t=>BI.jac hE.ed⟩
    · obtain ⟨v,h1,h2,h3,p,hcy⟩:=hn.cyc hE.ed fun s t=>BI.jac hE.ed
      have hbi:=rnd_bi (fun s t=>BI.jac hE.ed (wt:=wtR a b)) (g.list.length+1)
      exact .inr ⟨hn _ (Nat.le_refl _),_,_,hcy.wk,hcy.len,hcy.gain,l9Loop_d hF hbi.bl hbi.fit h1 h3 hcy⟩
  have hna:=hp.na
  have hma:=hp.ma
  have hnb:=hp.nb
  have hmb:=hp.mb

  clear hS
  simp only [xr,simprocAttr]
  refine amGo ?_
  ((try refine Or.inl ?_);refine ⟨_,(hR),amF,?_⟩;refine amC ?_)
  refine amGo ?_
  rcases hcase with ⟨hl,L,hL⟩ | ⟨hl,v,es,hwk,hlen,hgain,hlp⟩
  · obtain rfl:=res_one ho (hp.done hL)
    refine awp_cond amQ (fun hz => ?_) (fun hz => ?_)
    · refine amGo ?_
      (simp only [xec,simprocAttr];refine ⟨[_,_],⟨⟨amK,rfl⟩,rfl,trivial⟩,rfl,Imp.eq ?_⟩)
      rfl
    · exact (of_decide_eq_false hz hl).elim
  · have hbd:=hwk.bd hB
    have hnx:=hp.next hB hwk hlen hgain
    generalize sumE cstE es=C at *
    generalize sumE grwE es=G at *
    refine awp_cond amQ (fun hz => ?_) (fun hz => ?_)
    · exact (hl (of_decide_eq_true hz)).elim
    refine amGo ?_
    ((try refine Or.inl ?_);refine ⟨_,(hlp),.inl rfl,?_⟩;refine amC ?_)
    refine amGo ?_
    refine awp_cond amQ (fun hg => ?_) (fun hg => ?_)
    · have hg:G=0:=of_decide_eq_true hg
      obtain rfl:=res_one ho (hnx.1 hg)
      refine amGo ?_
      (simp only [xec,simprocAttr];refine ⟨[_,_],⟨⟨amK,rfl⟩,rfl,trivial⟩,rfl,Imp.eq ?_⟩)
      rfl
    · have hg:¬ G=0:=of_decide_eq_false hg
      obtain ⟨k1,k2,k3⟩:=hnx.2 (by omega)
      have hok:mkOk C G=true:=ok_small (by omega) (by omega) (by omega) (by omega)
      have hfr:mkFr C G=(qN C G,qD C G):=by unfold mkFr;rw [hok];rfl
      have hmk:=l2Make_d C G (by omega) (by omega) (by omega) (by omega)
      rw [hok,hfr] at hmk
      generalize qN C G=x at *
      generalize qD C G=y at *
      have q1:=k1.na
      have q2:=k1.ma
      have q3:=k1.nb
      have q4:=k1.mb
      have q5:0≤x*b∧x*b≤71400*71400:=⟨Int.mul_nonneg q1 (by omega),Int.mul_le_mul q2 hmb (by omega) (by decide)⟩
      have q6:0≤a*y∧a*y≤71400*71400:=⟨Int.mul_nonneg hna (by omega),Int.mul_le_mul hma q4 (by omega) (by decide)⟩
      have hcm:=l2Cmp_d (x,y) (a,b) (by show I64 (x*b);unfold I64;omega) (by show I64 (a*y);unfold I64;omega)
      have hcv:cmpV ((x,y).1*(a,b).2) ((a,b).1*(x,y).2)=1:=by
        show cmpV (x*b) (a*y)=1
        unfold cmpV
        rw [if_neg (by omega),if_pos k3]
      rw [hcv] at hcm
      refine amGo ?_
      ((try refine Or.inl ?_);refine ⟨_,(hmk),.inl rfl,?_⟩;refine amC ?_)
      refine amGo ?_
      ((try refine Or.inl ?_);refine ⟨_,(hcm),.inl rfl,?_⟩;refine amC ?_)
      refine amGo ?_
      refine awp_cond amQ (fun hq => ?_) (fun hq => ?_)
      · simp at hq
      refine amGo ?_
      refine ⟨(x,y),k1,k2,.inr ⟨3,Nat.le_of_ble_eq_true rfl,leT_of ?_ rfl rfl rfl⟩⟩
      ((try simp only [xk]);(repeat (refine leK_cons ?_ ?_;first | (exact amE) | rotate_left));(refine leK_nil ?_;exact (by rfl));(all_goals (try (simp only [xr,simprocAttr];try refine int_eq1 ?_))))
end Go.Proofs.YtlhdeofkhajigaaGreat
/- ExactRatio, on the machine: the program's and the reference's, as the law wants them. Conditions: none. -/
set_option linter.all false
set_option linter.unusedSimpArgs false
set_option linter.unusedVariables false
namespace Go.Proofs.YtlhdeofkhajigaaGreat
open Go Go.RowKit Am

noncomputable def exO (E:List (List Int)):Option (Int×Int) := @Classical.epsilon _ ⟨none⟩ fun o=>ResE E o∧∀ a b,o=some (a,b)→RatI E a b
theorem exO_ok {E:List (List Int)} {n:Nat} (h:EdB E n):ResE E (exO E)∧∀ a b,exO E=some (a,b)→RatI E a b:=Classical.epsilon_spec (p:=fun o=>ResE E o∧∀ a b,o=some (a,b)→RatI E a b) (res_ex h)
noncomputable def exB (m s nx:List (List Int)) (x:Int):(Int×Int)×Bool:=bif (prQ m s nx x).2 then ((0,0),false) else exV (exO (egs (prQ m s nx x).1.rows))
set_option maxHeartbeats 2000000 in
theorem spec_ExactRatio_d (m s nx:List (List Int)) (x:Int):Does Tryz.prog 21 [prA m s,.sl (.ii nx),.int x] (.imm (.tup [frT (exB m s nx x).1,blT (exB m s nx x).2])):=by
  have hG:=l9Get_d m s nx x
  cases hk:(takesB m s x [] && algB m s nx)
  · rw [hk,prQ_bad hk] at hG
    have hG:Does Tryz.prog 49 [prA m s,.sl (.ii nx),.int x] (.imm (.tup [.agg [.b (.val (.slice none 0 0)),.b (.val (.slice none 0 0)),.b (.val (.bool false))],.one (.b (.val (.bool false)))])):=hG
    have hcy:exB m s nx x=((0,0),false):=by unfold exB;rw [prQ_bad hk];rfl
    rw [hcy]
    refine spec_imm Tryz.func21 rfl Tryz.ntmps21 cfOK (fun _ _=>by kernel_rfl) rfl (Nat.le_of_ble_eq_true rfl) ?_
    intro M0 w0
    rw [Tryz.results21]
    refine amGo ?_
    ((try refine Or.inl ?_);refine ⟨_,(hG),amF,?_⟩;refine amC ?_)
    refine amGo ?_
    refine awp_cond amQ (fun hr => ?_) (fun hr => ?_)
    · refine amGo ?_
      (simp only [xec,simprocAttr];refine ⟨[_,_],⟨⟨amK,rfl⟩,rfl,trivial⟩,rfl,Imp.eq ?_⟩)
      rfl
    · simp at hr
  · rw [hk] at hG
    cases hq:(prQ m s nx x).2
    · have hF:=prQ_full hq
      have hG:Does Tryz.prog 49 [prA m s,.sl (.ii nx),.int x] (.imm (.tup [.agg [.b (.sl (.k 2 (prQ m s nx x).1.list)),.b (.sl (.ki 3 (eg3 (prQ m s nx x).1.rows))),.b (.val (.bool false))],.one (.b (.val (.bool true)))])):=by
        have hG2:=hG
        unfold prAv at hG2
        rw [hq] at hG2
        exact hG2
      have hcy:exB m s nx x=exV (exO (egs (prQ m s nx x).1.rows)):=by unfold exB;rw [hq];rfl
      rw [hcy]
      generalize (prQ m s nx x).1=g at hG hF
      have hex:=l9Exact_d hF (exO_ok (eg_B hF)).1
      refine spec_imm Tryz.func21 rfl Tryz.ntmps21 cfOK (fun _ _=>by kernel_rfl) rfl (Nat.le_of_ble_eq_true rfl) ?_
      intro M0 w0
      rw [Tryz.results21]
      refine amGo ?_
      ((try refine Or.inl ?_);refine ⟨_,(hG),amF,?_⟩;refine amC ?_)
      refine amGo ?_
      refine awp_cond amQ (fun hr => ?_) (fun hr => ?_)
      · cases hr
      refine amGo ?_
      ((try refine Or.inl ?_);refine ⟨_,(hex),.inl rfl,?_⟩;refine amC ?_)
      refine amGo ?_
      (simp only [xec,simprocAttr];refine ⟨[_,_],⟨⟨amK,rfl⟩,rfl,trivial⟩,rfl,Imp.eq ?_⟩)
      rfl
    · have hG:Does Tryz.prog 49 [prA m s,.sl (.ii nx),.int x] (.imm (.tup [.agg [.b (.sl (.k 2 (prQ m s nx x).1.list)),.b (.sl (.ki 3 (eg3 (prQ m s nx x).1.rows))),.b (.val (.bool true))],.one (.b (.val (.bool false)))])):=by
        have hG2:=hG
        unfold prAv at hG2
        rw [hq] at hG2
        exact hG2
      have hcy:exB m s nx x=((0,0),false):=by unfold exB;rw [hq];rfl
      rw [hcy]
      refine spec_imm Tryz.func21 rfl Tryz.ntmps21 cfOK (fun _ _=>by kernel_rfl) rfl (Nat.le_of_ble_eq_true rfl) ?_
      intro M0 w0
      rw [Tryz.results21]
      refine amGo ?_
      ((try refine Or.inl ?_);refine ⟨_,(hG),amF,?_⟩;refine amC ?_)
      refine amGo ?_
      refine awp_cond amQ (fun hr => ?_) (fun hr => ?_)
      · refine amGo ?_
        (simp only [xec,simprocAttr];refine ⟨[_,_],⟨⟨amK,rfl⟩,rfl,trivial⟩,rfl,Imp.eq ?_⟩)
        rfl
      · simp at hr
end Go.Proofs.YtlhdeofkhajigaaGreat
