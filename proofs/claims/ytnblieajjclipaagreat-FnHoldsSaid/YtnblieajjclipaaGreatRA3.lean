/- Arenas on the machine: the program's functions. Conditions: arenas that are right. -/
import Derived.Test.YtnblieajjclipaaGreatRA2
set_option linter.all false
namespace Go.Proofs.YtnblieajjclipaaGreat
open Go Go.RowKit Am
abbrev arO (cfl:List Bool) (ar:List (List (List Int))):List Ob:=[.box [.own 1,.own 2],.row 4 (.bo cfl),.tree [192,194] (.ki 2 ar)]
abbrev aI (cfl:List Bool) (ar:List (List (List Int))):AV := .lf (.ip [.sl (.bo cfl),.sl (.ki 2 ar)] 0)
theorem VK (cfl:List Bool) (ar:List (List (List Int))) (b:Bool) (h1:cfl.length<=1000) (h2:ar.length<=1000):bP Tryz.prog 156 [.lf (.ptr 0 0),.bool b] [true] (arO cfl ar) (.int cfl.length) (arO (cfl++[b]) (ar++[[]])):=by
 unfold arO
 have hl:(cfl++[b]).length=cfl.length+1:=by simp
 refine aZ Tryz.func156 rfl Tryz.ntmps156 aQ (fun _ _=>by kernel_rfl) rfl rfl rfl ?_
 intro M0 w0 S φ0
 rw [Tryz.results156]
 refine ah ?_
 (refine amB ?_;refine gq 2 [(8,[3,1]),(14,[4,2]),(17,[0]),(20,[0])] [0,1,2,3,4] [(5,[1,2,3,4]),(12,[1,2,3,4]),(8,[0,2,4]),(14,[0,1,3]),(17,[]),(20,[])] ?_;refine xw ?_)
 refine ah ?_
 (simp only [aC,aH];refine bf [0,3,4] rfl ⟨rfl,rfl,rfl,trivial⟩ rfl rfl rfl rfl rfl ?_;try rfl)
 have e:((cfl++[b]).length:Int)-1=cfl.length:=by omega
 rw [e]
 rfl
set_option maxHeartbeats 2000000 in
theorem Xh {cfl:List Bool} {ar:List (List (List Int))} {K great:Int} {ch V:List Int} (hok:qj cfl ar K) (hc:ACh cfl ar ch) (hV:ArV cfl ar great ch V) (hn:cfl.length<=400) (hr:∀ v,v<cfl.length->(aG ar v).length<=1000) (hK:0<=K/\K<=1000000000000) (hg:0<=great/\great<=1000000000000000000) :
  bP Tryz.prog 157 [aI cfl ar,.sl (.ints ch),.int great] [] [] (.lf (.own 0)) [.row 3 (.ints V)]:=by
 have hal:=hok.len
 have hcl:=hc.len
 have hVl:=hV.len
 have hVb:∀ v,v<cfl.length->V.getD v 0<=1000000000000000000+400*1000000000000:=fun v hv=>by
  have h1:=Int.mul_le_mul (show (cfl.length:Int)<=400 by omega) hK.2 hK.1 (by omega)
  rcases hV.lst.gap hK.1 (zl hok hc) (fun v c _ ⟨_,_,e⟩=>e) v hv with h2 | ⟨_,h2⟩
  ·have h2:V.getD v 0<=cfl.length*K:=h2
   omega
  ·have h2:V.getD v 0<=great+cfl.length*K:=h2
   omega
 have hwb:∀ v k,v<cfl.length->k<(aG ar v).length -> -1000000000000<=arW ((aG ar v).getD k [])/\arW ((aG ar v).getD k [])<=1000000000000:=fun v k hv hk=>by
  have:=hok.at hv hk
  omega
 refine aZ Tryz.func157 rfl Tryz.ntmps157 aQ (fun _ _=>by kernel_rfl) rfl rfl rfl ?_
 intro M0 w0 S φ0
 rw [Tryz.results157]
 refine ah ?_
 refine aA (α:=List Int×Bool) (fun a=>[(8,true,.bool a.2)]) [0,1,2,7] (fun a=>[.row 3 (.ints a.1)]) (fun a=>Hl cfl V a.1/\(a.2=false->∀ v,v<cfl.length->moV cfl ar ch great a.1 v<=a.1.getD v 0)) (fun a=>(2*(sAI (fun u=>V.getD u 0) cfl.length-sAI (fun u=>a.1.getD u 0) cfl.length)).toNat+cond a.2 1 0) (List.replicate cfl.length 0,true) (by exact dw (by show _=[Ob.row _ (Cn.ints (List.replicate ar.length 0))];rw [hal])) ⟨⟨by simp,fun v hv=>by simp [hv],fun v hv=>by simp [hv];exact hV.lst.sup.pos v hv⟩,fun h=>by cases h⟩ fun a ha =>?_
 obtain ⟨out,c⟩:=a
 obtain ⟨ho,hst⟩:=ha
 have hl:=ho.len
 simp only at ho hst hl ⊢
 simp only [xr,simprocAttr]
 refine ah ?_
 cases c
 ·refine aj amQ (fun h0 =>?_) (fun h0 =>?_)
  ·cases h0
  ·refine ah ?_
   have:=VZ hV ho (hst rfl)
   subst this
   (simp only [aC,aH];refine bf [0] rfl ⟨rfl,trivial⟩ rfl rfl rfl rfl rfl ?_;try rfl)
 refine aj amQ (fun h0 =>?_) (fun h0=>by cases h0)
 refine ah ?_
 refine aA (α:=Nat×List Int×Bool) (fun a=>[(26,true,.int a.1),(8,true,.bool a.2.2)]) [0,1,2,7,25] (fun a=>[.row 3 (.ints a.2.1)]) (fun a=>a.1<=cfl.length/\Hl cfl V a.2.1/\(a.2.2=false->a.2.1=out/\∀ u,u<a.1->moV cfl ar ch great out u<=out.getD u 0)/\(a.2.2=true->sAI (fun u=>out.getD u 0) cfl.length<sAI (fun u=>a.2.1.getD u 0) cfl.length)) (fun a=>cfl.length-a.1) (0,out,false) (by exact bW) ⟨Nat.zero_le _,ho,fun _=>⟨rfl,fun u hu=>by simp only at hu;omega⟩,fun h=>by cases h⟩ fun a ha =>?_
 obtain ⟨v,o2,c⟩:=a
 obtain ⟨hv,ho2,hs2,hs3⟩:=ha
 have hl2:=ho2.len
 simp only at hv ho2 hs2 hs3 hl2 ⊢
 simp only [xr,simprocAttr]
 refine ah ?_
 refine aj amQ (fun h1 =>?_) (fun h1 =>?_)
 ·have h1:=of_decide_eq_true h1
  have hv':v<cfl.length:=by omega
  have hrv:=hr v hv'
  have b1:=ho2.ge v hv'
  have b2:=ho2.le v hv'
  have b3:=hVb v hv'
  have hmo:=ZH hok hc hV ho2 hv'
  have c1:=hc.lt v hv'
  have c2:=hc.ge v hv'
  refine ah ?_
  refine TM _ [(10,true,.int (moV cfl ar ch great o2 v))] [0,1,2,7,8,9,25,26] [.row 3 (.ints o2)] ?_ ?_
  ·refine aj amQ (fun h2 =>?_) (fun h2 =>?_)
   ·have h2:arC cfl v=false:=by unfold arC;simpa using h2
    refine ah ?_
    refine aA (α:=Nat) (fun k=>[(73,true,.int k),(10,true,.int (moN o2 (aG ar v) (o2.getD v 0) k))]) [0,1,2,7,8,9,25,26,71,72] (fun k=>[.row 3 (.ints o2)]) (fun k=>k<=(aG ar v).length) (fun k=>(aG ar v).length-k) 0 (by exact bW) (Nat.zero_le _) fun k hk =>?_
    have hp:=Yh hok hc hV ho2 hv' h2 hk
    simp only [xr,simprocAttr]
    refine ah ?_
    refine aj amQ (fun h3 =>?_) (fun h3 =>?_)
    ·have h3:=of_decide_eq_true h3
     have hk':k<(aG ar v).length:=by
      have h3:(k:Int)<((aG ar v).length:Int):=h3
      omega
     obtain ⟨t,w,e1,e2,e3,e4⟩:=hok.el v hv' k hk'
     have e1':(ar.getD v []).getD k []=[(t:Int),w]:=e1
     have t1:=ho2.ge t e2
     have t2:=ho2.le t e2
     have t3:=hVb t e2
     have hE:=iO e1
     have hs:moN o2 (aG ar v) (o2.getD v 0) (k+1)=max (moN o2 (aG ar v) (o2.getD v 0) k) (w+o2.getD t 0):=by
      show max _ (arW ((aG ar v).getD k [])+o2.getD (rD ((aG ar v).getD k [])) 0)=_
      rw [hE.1,hE.2]
     refine ah ?_
     rw [e1']
     simp only [xr,simprocAttr]
     refine amS ?_
     refine ah ?_
     refine ⟨k+1,by omega,by omega,.inr ⟨1,Nat.le_of_ble_eq_true rfl,aT ?_ rfl rfl rfl⟩⟩
     exact dJ
    ·have h3:=of_decide_eq_false h3
     have hk':k=(aG ar v).length:=by
      have h3:¬ (k:Int)<((aG ar v).length:Int):=h3
      omega
     subst hk'
     refine ah ?_
     have hm:moV cfl ar ch great o2 v=moN o2 (aG ar v) (o2.getD v 0) (aG ar v).length:=if_pos h2
     rw [hm]
     refine .inl ?_
     exact bW
   ·have h2:arC cfl v=true:=by unfold arC;simpa using h2
    refine ah ?_
    refine aj amQ (fun h3 =>?_) (fun h3 =>?_)
    ·have h3:=of_decide_eq_true h3
     have h3:ch.getD v 0<0:=h3
     refine ah ?_
     have hm:moV cfl ar ch great o2 v=great:=by unfold moV;rw [if_neg (by rw [h2];decide),if_pos h3]
     rw [hm]
     refine .inl ?_
     exact bW
    ·have h3:=of_decide_eq_false h3
     have h3:¬ ch.getD v 0<0:=h3
     obtain ⟨j,hj⟩:=Int.eq_ofNat_of_zero_le (Int.not_lt.1 h3)
     have hj':j<(aG ar v).length:=by omega
     obtain ⟨t,w,e1,e2,e3,e4⟩:=hok.el v hv' j hj'
     have e1':(ar.getD v []).getD j []=[(t:Int),w]:=e1
     have t1:=ho2.ge t e2
     have t2:=ho2.le t e2
     have t3:=hVb t e2
     have hE:=iO e1
     have hm:moV cfl ar ch great o2 v=max (o2.getD v 0) (w+o2.getD t 0):=by
      unfold moV
      rw [if_neg (by rw [h2];decide),if_neg h3,hj,Int.toNat_natCast,hE.1,hE.2]
     have e1'':(ar.getD v []).getD (ch.getD v 0).toNat []=[(t:Int),w]:=by rw [hj,Int.toNat_natCast];exact e1
     refine ah ?_
     (refine amB ?_;refine iD [1] 0 [] (by kernel_rfl) (by kernel_rfl) (by kernel_rfl) (by kernel_rfl) (by kernel_rfl) ?_;refine amM ?_)
     rw [e1'']
     simp only [xr,simprocAttr]
     refine ah ?_
     rw [hm]
     refine .inr ⟨1,Nat.le_of_ble_eq_true rfl,aT ?_ rfl rfl rfl⟩
     exact dJ
  ·simp only [xr,simprocAttr]
   refine ah ?_
   refine aj amQ (fun h4 =>?_) (fun h4 =>?_)
   ·have h4:=of_decide_eq_true h4
    obtain ⟨o3,o4⟩:=Yq ho2 hv' h4 hmo
    have hsum:sAI (fun u=>out.getD u 0) cfl.length<sAI (fun u=>(o2.set v (moV cfl ar ch great o2 v)).getD u 0) cfl.length:=by
     cases c
     ·rw [(hs2 rfl).1] at o4
      rw [(hs2 rfl).1]
      exact o4
     ·exact Int.lt_trans (hs3 rfl) o4
    refine ah ?_
    refine ⟨(v+1,o2.set v (moV cfl ar ch great o2 v),true),hv',o3,fun h=>(by cases h),fun _=>hsum,by show cfl.length-(v+1)<cfl.length-v;omega,.inl ?_⟩
    exact dJ
   ·have h4:=of_decide_eq_false h4
    have h4:¬ o2.getD v 0<moV cfl ar ch great o2 v:=h4
    refine ah ?_
    refine ⟨(v+1,o2,c),hv',ho2,fun h=>⟨(hs2 h).1,fun u hu =>?_⟩,hs3,by show cfl.length-(v+1)<cfl.length-v;omega,.inl ?_⟩
    ·have hu:u<v+1:=hu
     by_cases e:u=v
     ·subst e
      rw [(hs2 h).1] at h4
      omega
     ·exact (hs2 h).2 u (by omega)
    ·exact dJ
 ·have h1:=of_decide_eq_false h1
  have hv':v=cfl.length:=by
   have h1:¬ (v:Int)<(ar.length:Int):=h1
   omega
  have hs4:=Qo ho2
  have hs5:=Qo ho
  refine ah ?_
  refine ⟨(o2,c),ho2,fun h u hu =>?_,?_,.inl ?_⟩
  ·rw [(hs2 h).1]
   exact (hs2 h).2 u (by omega)
  ·cases c
   ·rw [(hs2 rfl).1]
    simp only [cond_false,cond_true]
    omega
   ·have:=hs3 rfl
    simp only [cond_true]
    omega
  ·exact dJ
theorem acr (n:Int) (h1 : -9223372036854775807<=n) (h2:n<=9223372036854775807):Does Tryz.prog 127 [.int n] (.imm (.int (n.natAbs:Int))):=by
 refine aF Tryz.func127 rfl Tryz.ntmps127 aQ (fun _ _=>by kernel_rfl) rfl (Nat.le_of_ble_eq_true rfl) ?_
 intro M0 w0
 rw [Tryz.results127]
 refine ah ?_
 refine bJ ?_
 rw [show ((n.natAbs:Nat):Int)=max n (-n) by omega]
set_option maxHeartbeats 4000000 in
theorem LM {cfl:List Bool} {ar:List (List (List Int))} {G:Int} {ks:Nat} {W:List Int} (hok:qj cfl ar G) (hn:cfl.length<=400) (h0:0<cfl.length) (hr:∀ v,v<cfl.length->(aG ar v).length<=1000) (hG:0<=G/\G<=1000000000)
  (hX:ArX cfl (scl ar) (4*(((ar.length:Int)+1)*moA ((ar.length:Int)+1) ar ar.length)) ks (List.replicate cfl.length (-1)) W) :
  bP Tryz.prog 101 [aI cfl ar] [] [] (.tup [.one (.own 0),.one (.b (.val (.int .i64 (((ar.length:Int)+1)*moA ((ar.length:Int)+1) ar ar.length))))]) [.row 3 (.ints W)]:=by
 have hal:=hok.len
 have hA1:=(zO ((ar.length:Int)+1) ar ar.length).1
 have hA2:=Vx hok hG.1
 have hGn:=Int.mul_le_mul hG.2 (show (ar.length:Int)+1<=401 by omega) (by omega) (by omega)
 have hmul:=Int.mul_le_mul (show (ar.length:Int)+1<=401 by omega) (show moA ((ar.length:Int)+1) ar ar.length<=401000000001 by omega) (by omega) (by omega)
 have hmul0:=Int.mul_nonneg (show 0<=(ar.length:Int)+1 by omega) (show 0<=moA ((ar.length:Int)+1) ar ar.length by omega)
 have hok2:=Oq hok
 have hsl:(scl ar).length=ar.length:=by simp [scl]
 refine aZ Tryz.func101 rfl Tryz.ntmps101 aQ (fun _ _=>by kernel_rfl) rfl rfl rfl ?_
 intro M0 w0 S φ0
 rw [Tryz.results101]
 refine ah ?_
 (refine kJ 0 1 192 (.ki 2 []) rfl rfl rfl (by first | trivial | (intro _ h;cases h)) ?_;simp only [xr,simprocAttr])
 refine aA (α:=Nat) (fun i=>[(38,true,.int i),(6,true,.int (moA ((ar.length:Int)+1) ar i))]) [0,4,5,36,37] (fun i=>[.box [.b (.sl (.bo cfl)),.own 1],.row 192 (.ki 2 ((scl ar).take i))]) (fun i=>i<=ar.length) (fun i=>ar.length-i) 0 (by exact dJ) (Nat.zero_le _) fun i hi =>?_
 have hB1:=(zO ((ar.length:Int)+1) ar i).1
 have htk:((scl ar).take i).length=i:=by rw [List.length_take,hsl];omega
 simp only [xr,simprocAttr]
 refine ah ?_
 refine aj amQ (fun hc =>?_) (fun hc =>?_)
 ·have hc:=of_decide_eq_true hc
  have hi':i<ar.length:=by omega
  have hri:=hr i (by omega)
  have hri':(ar.getD i []).length<=1000:=hri
  have hrow:(scl ar).getD i []=aG (scl ar) i:=rfl
  have hrl:(aG (scl ar) i).length=(ar.getD i []).length:=jL
  refine ah ?_
  refine aA (α:=Nat) (fun k=>[(45,true,.int k),(6,true,.int (moR ((ar.length:Int)+1) (aG ar i) (moA ((ar.length:Int)+1) ar i) k))]) [0,4,5,8,9,36,37,38,43,44] (fun k=>[.box [.b (.sl (.bo cfl)),.own 1],.row 192 (.ki 2 ((scl ar).take i)),.row 194 (.k 2 ((aG (scl ar) i).take k))]) (fun k=>k<=(aG ar i).length) (fun k=>(aG ar i).length-k) 0 (by exact dJ) (Nat.zero_le _) fun k hk =>?_
  have hB2:=(NT ((ar.length:Int)+1) (aG ar i) (moA ((ar.length:Int)+1) ar i) k).1
  have htk2:((aG (scl ar) i).take k).length=k:=by
   have:(aG ar i).length=(ar.getD i []).length:=rfl
   rw [List.length_take,hrl];omega
  simp only [xr,simprocAttr]
  refine ah ?_
  refine aj amQ (fun hd =>?_) (fun hd =>?_)
  ·have hd:=of_decide_eq_true hd
   have hk':k<(aG ar i).length:=by
    have hd:(k:Int)<((aG ar i).length:Int):=hd
    omega
   obtain ⟨t,w,e1,e2,e3⟩:=hok.el i (by omega) k hk'
   have e1':(ar.getD i []).getD k []=[(t:Int),w]:=e1
   have hwb:=yO (N:=(ar.length:Int)+1) hG.1 e3 (by omega)
   have hw2 : -402000000000<=w*((ar.length:Int)+1)/\w*((ar.length:Int)+1)<=402000000000:=by omega
   have hsc:(aG (scl ar) i).getD k []=[(t:Int),w*((ar.length:Int)+1)-1]:=by
    rw [BK,iw hk' [] [],e1]
    rfl
   have hnext:(aG (scl ar) i).take (k+1)=(aG (scl ar) i).take k++[[(t:Int),w*((ar.length:Int)+1)-1]]:=by
    rw [eU (by rw [jL];exact hk') [],hsc]
   have hmo:moR ((ar.length:Int)+1) (aG ar i) (moA ((ar.length:Int)+1) ar i) (k+1)=max (moR ((ar.length:Int)+1) (aG ar i) (moA ((ar.length:Int)+1) ar i) k) ((w*((ar.length:Int)+1)-1).natAbs:Int):=by
    show max _ ((arW ((aG ar i).getD k [])*((ar.length:Int)+1)-1).natAbs:Int)=_
    rw [e1]
    rfl
   refine ah ?_
   rw [e1']
   simp only [xr,simprocAttr]
   refine amS ?_
   refine ah ?_
   ((try refine Or.inl ?_);refine ⟨_,(acr (w*((ar.length:Int)+1)-1) (by omega) (by omega)),.inl rfl,?_⟩;refine amC ?_)
   refine ah ?_
   refine ⟨k+1,by omega,by omega,.inr ⟨3,Nat.le_of_ble_eq_true rfl,aT ?_ rfl rfl rfl⟩⟩
   exact dw (by rw [hnext];rfl)
  ·have hd:=of_decide_eq_false hd
   have hk':k=(aG ar i).length:=by
    have hd:¬ (k:Int)<((aG ar i).length:Int):=hd
    omega
   have hfull:(aG (scl ar) i).take k=aG (scl ar) i:=List.take_of_length_le (by rw [jL];omega)
   rw [hfull]
   (refine aK 2 rfl ?_;simp only [xz,simprocAttr])
   refine ah ?_
   refine ⟨i+1,by omega,by omega,.inr ⟨2,Nat.le_of_ble_eq_true rfl,aT ?_ rfl rfl rfl⟩⟩
   have hnx:(scl ar).take (i+1)=(scl ar).take i++[aG (scl ar) i]:=by rw [eU (by omega) []];rfl
   have hmo:moA ((ar.length:Int)+1) ar (i+1)=moR ((ar.length:Int)+1) (aG ar i) (moA ((ar.length:Int)+1) ar i) k:=by rw [hk'];rfl
   exact dw (by rw [hnx];rfl)
 ·have hc:=of_decide_eq_false hc
  have hi':i=ar.length:=by omega
  subst hi'
  have hfull:(scl ar).take ar.length=scl ar:=List.take_of_length_le (by omega)
  rw [hfull]
  refine ah ?_
  (refine .inr (.inl (gJ (ac4 (-1) ar.length (by omega) (by omega)) rfl rfl rfl rfl rfl rfl rfl ?_));refine amC ?_)
  refine ah ?_
  generalize hM:moA ((ar.length:Int)+1) ar ar.length=K at *
  rw [← hal] at hX
  refine aA (α:=List Int×Nat) (fun _=>[]) [4,5,6,12,13] (fun a=>[.box [.b (.sl (.bo cfl)),.own 1],.row 192 (.ki 2 (scl ar)),.row 3 (.ints a.1)]) (fun a=>ACh cfl (scl ar) a.1/\ArX cfl (scl ar) (4*(((ar.length:Int)+1)*K)) a.2 a.1 W) (fun a=>a.2) (List.replicate ar.length (-1),ks) (by exact dJ) ⟨by rw [hal];exact (zo hok2 (show 0<=K by omega) (show (0:Int)<=0 by omega)).1,hX⟩ fun a ha =>?_
  obtain ⟨ch,j⟩:=a
  obtain ⟨hc,hx⟩:=ha
  simp only at hc hx ⊢
  obtain ⟨V,hV,hcase⟩:=hx.val
  have hcl:=hc.len
  have hVl:=hV.len
  simp only [xr,simprocAttr]
  refine ah ?_
  (refine .inr (.inl (gJ (Xh hok2 hc hV hn (fun v hv=>by rw [jL];exact hr v hv) (by omega) (by omega)) rfl rfl rfl rfl rfl rfl rfl ?_));refine amC ?_)
  have hVb:∀ v,v<cfl.length->0<=V.getD v 0/\V.getD v 0<=1000000000000000:=fun v hv=>by
   have h1:=Int.mul_le_mul (show (cfl.length:Int)<=400 by omega) (show K<=401000000001 by omega) (by omega) (by omega)
   have h3:=hV.lst.sup.pos v hv
   have h3:0<=V.getD v 0:=h3
   rcases hV.lst.gap (show 0<=K by omega) (zl hok2 hc) (fun v c _ ⟨_,_,e⟩=>e) v hv with h2 | ⟨_,h2⟩
   ·have h2:V.getD v 0<=cfl.length*K:=h2
    omega
   ·have h2:V.getD v 0<=4*(((ar.length:Int)+1)*K)+cfl.length*K:=h2
    omega
  refine ah ?_
  refine aA (α:=Nat×List Int×Bool) (fun a=>[(94,true,.int a.1),(15,true,.bool a.2.2)]) [4,5,6,12,13,14,92,93] (fun a=>[.box [.b (.sl (.bo cfl)),.own 1],.row 192 (.ki 2 (scl ar)),.row 3 (.ints a.2.1),.row 3 (.ints V)]) (fun a=>a.1<=cfl.length/\a.2.1.length=cfl.length/\(∀ u,u<a.1->a.2.1.getD u 0=(jm cfl (scl ar) V ch).getD u 0)/\(∀ u,a.1<=u->a.2.1.getD u 0=ch.getD u 0)/\(a.2.2=false->∀ u,u<a.1->(jm cfl (scl ar) V ch).getD u 0=ch.getD u 0)/\(a.2.2=true->∃ u,u<a.1/\(jm cfl (scl ar) V ch).getD u 0≠ch.getD u 0)) (fun a=>cfl.length-a.1) (0,ch,false) (by exact dJ) ⟨Nat.zero_le _,hcl,fun u hu=>absurd hu (Nat.not_lt_zero u),fun _ _=>rfl,fun _ u hu=>absurd hu (Nat.not_lt_zero u),fun h=>by cases h⟩ fun a ha =>?_
  obtain ⟨v,c,b⟩:=a
  obtain ⟨hv,hcl2,hc1,hc2,hb1,hb2⟩:=ha
  simp only at hv hcl2 hc1 hc2 hb1 hb2 ⊢
  simp only [xr,simprocAttr]
  refine ah ?_
  refine aj amQ (fun hd =>?_) (fun hd =>?_)
  ·have hd:=of_decide_eq_true hd
   have hv':v<cfl.length:=by omega
   have hrv:=hr v hv'
   have hrl:(aG (scl ar) v).length=(aG ar v).length:=jL
   have hrl':((scl ar).getD v []).length<=1000:=by show (aG (scl ar) v).length<=1000;omega
   have hv3:=hVb v hv'
   have hcv:=hc2 v (Nat.le_refl _)
   refine ah ?_
   refine aj amQ (fun he =>?_) (fun he =>?_)
   ·have he:arC cfl v=false:=by unfold arC;simpa using he
    have hi:(jm cfl (scl ar) V ch).getD v 0=ch.getD v 0:=by rw [um hv',if_neg (by rw [he];decide)]
    refine ah ?_
    refine ⟨(v+1,c,b),hv',hcl2,fun u hu =>?_,fun u hu=>hc2 u (by have hu:v+1<=u:=hu;omega),fun h u hu =>?_,fun h =>?_,by show cfl.length-(v+1)<cfl.length-v;omega,.inl ?_⟩
    ·have hu:u<v+1:=hu
     by_cases e:u=v
     ·subst e;exact hcv.trans hi.symm
     ·exact hc1 u (by omega)
    ·have hu:u<v+1:=hu
     by_cases e:u=v
     ·subst e;exact hi
     ·exact hb1 h u (by omega)
    ·obtain ⟨u,h1,h2⟩:=hb2 h
     exact ⟨u,by show u<v+1;omega,h2⟩
    ·exact dJ
   ·have he:arC cfl v=true:=by unfold arC;simpa using he
    have hz0:jX V (aG (scl ar) v) (V.getD v 0) (ch.getD v 0) 0=(V.getD v 0,ch.getD v 0):=rfl
    have hb0:(b || decide ((V.getD v 0,ch.getD v 0).1<V.getD v 0))=b:=by simp
    have hc0:c.set v (V.getD v 0,ch.getD v 0).2=c:=LH c (by omega) hcv
    refine ah ?_
    refine aA (α:=Nat) (fun k=>[(113,true,.int k),(18,true,.int (jX V (aG (scl ar) v) (V.getD v 0) (ch.getD v 0) k).1),(15,true,.bool (b || decide ((jX V (aG (scl ar) v) (V.getD v 0) (ch.getD v 0) k).1<V.getD v 0)))]) [4,5,6,12,13,14,16,92,93,94,111,112] (fun k=>[.box [.b (.sl (.bo cfl)),.own 1],.row 192 (.ki 2 (scl ar)),.row 3 (.ints (c.set v (jX V (aG (scl ar) v) (V.getD v 0) (ch.getD v 0) k).2)),.row 3 (.ints V)]) (fun k=>k<=(aG (scl ar) v).length) (fun k=>(aG (scl ar) v).length-k) 0 (by rw [hz0,hb0,hc0];((try simp only [xk]);(repeat (refine jI ?_ ?_;first | (exact amE) | rotate_left));(try exact mF rfl);(all_goals (try (simp only [xr,simprocAttr];try refine kM ?_))))) (Nat.zero_le _) fun k hk =>?_
    obtain ⟨i1,i2,i3,i4⟩:=uo V (aG (scl ar) v) (V.getD v 0) (ch.getD v 0) k
    simp only [xr,simprocAttr]
    refine ah ?_
    refine aj amQ (fun hf =>?_) (fun hf =>?_)
    ·have hf:=of_decide_eq_true hf
     have hk':k<(aG (scl ar) v).length:=by
      have hf:(k:Int)<((aG (scl ar) v).length:Int):=hf
      omega
     obtain ⟨t,w,e1,e2,e3,e4⟩:=hok2.el v hv' k hk'
     have e1':((scl ar).getD v []).getD k []=[(t:Int),w]:=e1
     have hvt:=hVb t e2
     have hS:arS V ((aG (scl ar) v).getD k [])=max 0 (w+V.getD t 0):=by
      rw [e1]
      unfold arS
      rw [(iO rfl).1,(iO rfl).2]
     have hstep:jX V (aG (scl ar) v) (V.getD v 0) (ch.getD v 0) (k+1)=if max 0 (w+V.getD t 0)<(jX V (aG (scl ar) v) (V.getD v 0) (ch.getD v 0) k).1 then (max 0 (w+V.getD t 0),(k:Int)) else jX V (aG (scl ar) v) (V.getD v 0) (ch.getD v 0) k:=by
      show (if arS V ((aG (scl ar) v).getD k [])<_ then _ else _)=_
      rw [hS]
     refine ah ?_
     rw [e1']
     simp only [xr,simprocAttr]
     refine amS ?_
     refine ah ?_
     refine aj amQ (fun hg =>?_) (fun hg =>?_)
     ·have hg:=of_decide_eq_true hg
      have hb3:(b || decide ((max 0 (w+V.getD t 0),(k:Int)).1<V.getD v 0))=true:=by
       rw [decide_eq_true (show (max 0 (w+V.getD t 0),(k:Int)).1<V.getD v 0 by simp only;omega),Bool.or_true]
      refine ah ?_
      refine ⟨k+1,by omega,by omega,?_⟩
      rw [hstep,if_pos hg,hb3]
      refine .inr ⟨4,Nat.le_of_ble_eq_true rfl,aT ?_ rfl rfl rfl⟩
      exact dw (by rw [set_set];rfl)
     ·have hg:=of_decide_eq_false hg
      refine ah ?_
      refine ⟨k+1,by omega,by omega,?_⟩
      rw [hstep,if_neg hg]
      refine .inr ⟨4,Nat.le_of_ble_eq_true rfl,aT ?_ rfl rfl rfl⟩
      exact dJ
    ·have hf:=of_decide_eq_false hf
     have hk':k=(aG (scl ar) v).length:=by
      have hf:¬ (k:Int)<((aG (scl ar) v).length:Int):=hf
      omega
     subst hk'
     have hi:=um (ar:=scl ar) (V:=V) (ch:=ch) hv'
     rw [if_pos he] at hi
     refine ah ?_
     refine ⟨(v+1,c.set v (jX V (aG (scl ar) v) (V.getD v 0) (ch.getD v 0) (aG (scl ar) v).length).2,b || decide ((jX V (aG (scl ar) v) (V.getD v 0) (ch.getD v 0) (aG (scl ar) v).length).1<V.getD v 0)),hv',by simp [hcl2],fun u hu =>?_,fun u hu =>?_,fun h u hu =>?_,fun h =>?_,by show cfl.length-(v+1)<cfl.length-v;omega,.inl ?_⟩
     ·have hu:u<v+1:=hu
      show (c.set v _).getD u 0=_
      rw [wL c v u _ (by omega)]
      split
      ·rename_i e;subst e;exact hi.symm
      ·exact hc1 u (by omega)
     ·have hu:v+1<=u:=hu
      show (c.set v _).getD u 0=_
      rw [wL c v u _ (by omega),if_neg (by omega)]
      exact hc2 u (by omega)
     ·have hu:u<v+1:=hu
      have h:(b || decide _)=false:=h
      rw [Bool.or_eq_false_iff] at h
      by_cases e:u=v
      ·subst e
       exact X5 hv' he (of_decide_eq_false h.2)
      ·exact hb1 h.1 u (by omega)
     ·have h:(b || decide _)=true:=h
      rw [Bool.or_eq_true] at h
      rcases h with h | h
      ·obtain ⟨u,h1,h2⟩:=hb2 h
       exact ⟨u,by show u<v+1;omega,h2⟩
      ·exact ⟨v,by show v<v+1;omega,X6 hc hV hv' he (of_decide_eq_true h)⟩
     ·exact dJ
  ·have hd:=of_decide_eq_false hd
   have hv':v=cfl.length:=by omega
   subst hv'
   have hcc:c=jm cfl (scl ar) V ch:=rU (by rw [hcl2];simp [jm]) fun u hu=>hc1 u (by simpa [jm] using hu)
   refine ah ?_
   refine aj amQ (fun he =>?_) (fun he =>?_)
   ·have he:b=false:=by simpa using he
    have hi:jm cfl (scl ar) V ch=ch:=rU (by rw [hcl];simp [jm]) fun u hu=>hb1 he u (by omega)
    rcases hcase with ⟨_,rfl⟩ | ⟨h1,_⟩
    ·refine ah ?_
     (simp only [aC,aH];refine qL (vs:=[_,_]) [3] rfl ⟨rfl,trivial⟩ rfl rfl rfl rfl ⟨rfl,rfl,trivial⟩ ?_;try rfl)
    ·exact absurd hi h1
   ·have he:b=true:=by simpa using he
    obtain ⟨u,h1,h2⟩:=hb2 he
    rcases hcase with ⟨h3,_⟩ | ⟨_,l,rfl,h3⟩
    ·rw [h3] at h2;exact absurd rfl h2
    ·refine ah ?_
     rw [hcc]
     refine ⟨(jm cfl (scl ar) V ch,l),(Ia hc).ok,h3,by show l<l+1;omega,.inr ⟨3,Nat.le_of_ble_eq_true rfl,aT ?_ rfl rfl rfl⟩⟩
     exact dJ
end Go.Proofs.YtnblieajjclipaaGreat
