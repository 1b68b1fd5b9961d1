/- Whether the algorithm can keep the sums of gains bounded: the reference's function. Conditions: games that are whole, ratios in bounds. -/
import Derived.Test.YtkcelmnbfbehbaaGreatRA5
import Derived.Test.YtkcelmnbfbehbaaGreatZArF
set_option linter.all false
namespace Go.Proofs.YtkcelmnbfbehbaaGreat
open Go Go.RowKit Am
theorem IB {m s:List (List Int)} {t:dF} {g:GmT} (hx:GmX m s t g) (b:Bool) {num den:Int} (hn:0<=num/\num<=1000000) (hd:0<=den/\den<=1000000) {B:Bool} (hBi:B=true↔∃ C,CrP g.list.length (rqR s) (gmE g num den) C):Does Tryz.prog 46 [gA g b,frA (den,num)] (.imm (.bool B)):=by
 have hf:=hx.full
 have hB:=jX hf hn hd
 have hle:=hf.le
 have hpos:=hf.pos
 have hml:=PK g.list.length s.length true
 have hok:=D7 hB (List.replicate g.list.length (List.replicate s.length true))
 have hC0:SpC (gmS s g num den (List.replicate g.list.length (List.replicate s.length true))) (fun _ _ => -1):=⟨fun i r hi hr=>by omega,fun i r hi hr=>by omega⟩
 obtain ⟨V0,hV0⟩:=Hl (g:=gmS s g num den (List.replicate g.list.length (List.replicate s.length true))) (give:=gv) (ch:=fun _ _ => -1) (fun _ _ _ _=>rfl) (by decide)
 obtain ⟨ks,W,hX⟩:=Xi hok (by omega) (by decide) _ _ V0 (Nat.le_refl _) hC0 hV0
 have hend:=hX.end (a:=(g.list.length:Int)+1) (gain:=fun i r k=>cO num den (((g.ch.getD i []).getD r []).getD k [])) hok (by omega) hC0 (fun i r k _ _ _=>rfl)
 have hend:qH g.list.length (fun i r=>r<s.length/\((List.replicate g.list.length (List.replicate s.length true)).getD i []).getD r false=true) (gmE g num den) ((g.list.length:Int)+1) gv (g.list.length*10000000000) W:=hend
 have hend2:qH g.list.length (rqR s) (gmE g num den) ((g.list.length:Int)+1) gv (g.list.length*10000000000) W:=by
  refine ⟨hend.pos,fun i r hi hr=>hend.alg i r hi ⟨hr,?_⟩,fun i hi h0 =>?_,hend.gap⟩
  ·simp [hi,show r<s.length from hr]
  ·obtain ⟨r,⟨hr,_⟩,h⟩:=hend.adv i hi h0
   exact ⟨r,hr,h⟩
 have hgv:gv=100000000000000000:=rfl
 have hM:(g.list.length:Int)*10000000000<=600000000000:=by omega
 have key:decide (W 0<50000000000000000)=B:=by
  cases hBv:B
  ·refine decide_eq_false fun hlt =>?_
   have hno:¬ ∃ C,CrP g.list.length (rqR s) (gmE g num den) C:=fun h=>by rw [hBi.2 h] at hBv;cases hBv
   apply hno
   have h0:W 0<=g.list.length*10000000000:=by
    rcases hend2.gap 0 hpos with h | h<;>omega
   have hend3:qH g.list.length (rqR s) (gmE g num den) ((g.list.length+1:Nat):Int) gv (g.list.length*10000000000) W:=by rw [Int.natCast_add];exact hend2
   obtain ⟨C,hC⟩:=hend3.Na hB.eok (by omega) (by rw [Int.natCast_add];omega) (by omega)
   refine mimic hx hn.1 hd.1 (fun i=>i<g.list.length/\W i<=g.list.length*10000000000) C ⟨0,hpos,hpos,h0⟩ fun j hj hP=>⟨(hC j hj hP.2).1,fun r hr =>?_⟩
   obtain ⟨t,w,h1,h2,h3⟩:=(hC j hj hP.2).2 r hr
   exact ⟨t,w,h1,⟨(hB.eok j r t w hj hr h1).1,h2⟩,h3⟩
  ·refine decide_eq_true ?_
   obtain ⟨C,hC⟩:=hBi.1 hBv
   have h1:=Int.mul_le_mul (show (g.list.length:Int)+1<=61 by omega) (show (g.list.length:Int)*119000000<=60*119000000 by omega) (by omega) (by omega)
   have:=hend2.small hB.eok (by omega) (by omega) (by omega) hC 0 hpos
   omega
 rw [← key]
 have h1:Does Tryz.prog 107 [gA g b] (.imm (.sl (.bbo (List.replicate g.list.length (List.replicate s.length true))))):=pq (KN hf b)
 have h2:Does Tryz.prog 106 [gA g b,frA (den,num),.sl (.bbo (List.replicate g.list.length (List.replicate s.length true)))] (.imm (.sl (.ints ((List.range g.list.length).map W)))):=pq (FB hf b hn hd hml hX)
 have hWl:((List.range g.list.length).map W).length=g.list.length:=by simp
 have hW0:((List.range g.list.length).map W).getD 0 0=W 0:=dI hpos
 refine aF Tryz.func46 rfl Tryz.ntmps46 aP (fun _ _=>by kernel_rfl) rfl (Nat.le_of_ble_eq_true rfl) ?_
 intro M0 w0
 rw [Tryz.results46]
 refine ah ?_
 ((try refine Or.inl ?_);refine ⟨_,(h1),amF,?_⟩;refine amC ?_)
 ((try refine Or.inl ?_);refine ⟨_,(h2),amF,?_⟩;refine amC ?_)
 refine ah ?_
 refine bI ?_
 rw [← hW0]
theorem Ik {A B:Prop} [Decidable A] [Decidable B]:(bif decide A then true else decide B)=true↔A\/B:=by
 by_cases h1:A<;>by_cases h2:B<;>simp [h1,h2]
def riS (num den:Int) (row:List (List Int)) (tab:List Int) (k:Nat):Int:=max (cO num den (row.getD k [])+tab.getD (toC (row.getD k [])) 0) 0
def riL (num den:Int) (row:List (List Int)) (tab:List Int):Nat->Int
 | 0 => -1
 | k+1=>if riL num den row tab k<0\/riS num den row tab k<riL num den row tab k then riS num den row tab k else riL num den row tab k
def riN (num den:Int) (a:List (List (List Int))) (tab:List Int):Nat->Int
 | 0=>0
 | r+1=>max (riN num den a tab r) (riL num den (a.getD r []) tab (a.getD r []).length)
theorem Ap (num den:Int) (row:List (List Int)) (tab:List Int):∀ k,(∀ j,j<k->riL num den row tab k<=riS num den row tab j)/\(k=0/\riL num den row tab k = -1\/∃ j,j<k/\riL num den row tab k=riS num den row tab j)
 | 0=>⟨fun j hj=>by omega,.inl ⟨rfl,rfl⟩⟩
 | k+1=>by
  obtain ⟨h1,h2⟩:=Ap num den row tab k
  have h0:∀ j,0<=riS num den row tab j:=fun j=>by unfold riS;omega
  unfold riL
  by_cases h:riL num den row tab k<0\/riS num den row tab k<riL num den row tab k
  ·rw [if_pos h]
   refine ⟨fun j hj =>?_,.inr ⟨k,by omega,rfl⟩⟩
   by_cases e:j=k
   ·rw [e];exact Int.le_refl _
   ·have h3:=h1 j (by omega)
    rcases h with h | h
    ·rcases h2 with ⟨rfl,_⟩ | ⟨l,_,e2⟩
     ·omega
     ·have:=h0 l;omega
    ·omega
  ·rw [if_neg h]
   refine ⟨fun j hj =>?_,?_⟩
   ·by_cases e:j=k
    ·rw [e];omega
    ·exact h1 j (by omega)
   ·rcases h2 with ⟨rfl,e⟩ | ⟨l,hl,e⟩
    ·rw [e] at h;exact absurd (.inl (by omega)) h
    ·exact .inr ⟨l,by omega,e⟩
theorem Aq (num den:Int) (a:List (List (List Int))) (tab:List Int):∀ q,0<=riN num den a tab q/\∀ r,r<q->riL num den (a.getD r []) tab (a.getD r []).length<=riN num den a tab q
 | 0=>⟨Int.le_refl _,fun r hr=>by omega⟩
 | q+1=>by
  obtain ⟨h1,h2⟩:=Aq num den a tab q
  unfold riN
  refine ⟨by omega,fun r hr =>?_⟩
  by_cases e:r=q
  ·subst e;omega
  ·have:=h2 r (by omega);omega
theorem Ou {num den:Int} {a:List (List (List Int))} {tab:List Int} {b:Int} (hb:0<=b):∀ q,(∀ r,r<q->riL num den (a.getD r []) tab (a.getD r []).length<=b)->riN num den a tab q<=b
 | 0,_=>hb
 | q+1,h=>by
  have h1:=Ou hb q fun r hr=>h r (by omega)
  have h2:=h q (by omega)
  unfold riN
  omega
def riT (s:List (List Int)) (g:GmT) (num den:Int) (tab:List Int):List Int:=(List.range g.list.length).map fun i=>riN num den (g.ch.getD i []) tab s.length
theorem wU {s:List (List Int)} {g:GmT} {num den:Int} {tab:List Int} {i:Nat} (hi:i<g.list.length):(riT s g num den tab).getD i 0=riN num den (g.ch.getD i []) tab s.length:=dI hi
theorem adg {m s:List (List Int)} {g:GmT} {num den G:Int} (hB:GmB m s g num den G) {L tab:List Int} (h:LcL s g num den L) (ho:zy g L tab):zy g L (riT s g num den tab):=by
 refine ⟨by simp [riT],fun i hi =>?_,fun i hi =>?_⟩
 ·rw [wU hi];exact (Aq _ _ _ _ _).1
 ·rw [wU hi]
  refine Ou (h.lc.1.pos i hi) _ fun r hr =>?_
  obtain ⟨t,w,⟨k,hk,rfl,rfl⟩,h1⟩:=h.lc.1.ok i r hi hr
  have h2:=(Ap num den ((g.ch.getD i []).getD r []) tab ((g.ch.getD i []).getD r []).length).1 k hk
  have h3:=ho.le _ (hB.to_ hi hr hk).1
  have h4:=h.lc.1.pos i hi
  have h4:0<=L.getD i 0:=h4
  have h1:cO num den (((g.ch.getD i []).getD r []).getD k [])+L.getD (toC (((g.ch.getD i []).getD r []).getD k [])) 0<=L.getD i 0:=h1
  unfold riS at h2
  omega
theorem WR {m s:List (List Int)} {g:GmT} {num den G:Int} (hB:GmB m s g num den G) {tab tab':List Int} (h:∀ i,i<g.list.length->tab.getD i 0<=tab'.getD i 0):∀ i,i<g.list.length->(riT s g num den tab).getD i 0<=(riT s g num den tab').getD i 0:=fun i hi=>by
 rw [wU hi,wU hi]
 refine Ou (Aq _ _ _ _ _).1 _ fun r hr =>?_
 refine Int.le_trans ?_ ((Aq num den (g.ch.getD i []) tab' s.length).2 r hr)
 obtain ⟨h1,_⟩:=Ap num den ((g.ch.getD i []).getD r []) tab ((g.ch.getD i []).getD r []).length
 rcases (Ap num den ((g.ch.getD i []).getD r []) tab' ((g.ch.getD i []).getD r []).length).2 with ⟨h2,h3⟩ | ⟨j,hj,h3⟩
 ·rw [h3]
  rcases (Ap num den ((g.ch.getD i []).getD r []) tab ((g.ch.getD i []).getD r []).length).2 with ⟨_,h4⟩ | ⟨j,hj,_⟩
  ·omega
  ·omega
 ·rw [h3]
  have h4:=h1 j hj
  have h5:=h _ (hB.to_ hi hr hj).1
  unfold riS at h4 ⊢
  omega
theorem WQ {m s:List (List Int)} {g:GmT} {num den G:Int} (hB:GmB m s g num den G) {L tab:List Int} (h:LcL s g num den L) (ho:zy g L tab) (e:riT s g num den tab=tab):tab=L:=by
 have hc:CrP g.list.length (rqR s) (gmE g num den) (fun i=>tab.getD i 0):=by
  refine ⟨ho.ge,fun i r hi hr =>?_⟩
  have h1:=(Aq num den (g.ch.getD i []) tab s.length).2 r hr
  rw [← wU hi,e] at h1
  obtain ⟨t,w,⟨k,hk,_,_⟩,_⟩:=h.lc.1.ok i r hi hr
  rcases (Ap num den ((g.ch.getD i []).getD r []) tab ((g.ch.getD i []).getD r []).length).2 with ⟨h2,_⟩ | ⟨j,hj,h3⟩
  ·omega
  ·refine ⟨_,_,⟨j,hj,rfl,rfl⟩,?_⟩
   show _+tab.getD _ 0<=tab.getD i 0
   rw [h3] at h1
   unfold riS at h1
   omega
 refine List.ext_getElem (by rw [ho.len,h.len]) fun v hv hv' =>?_
 have hv2:v<g.list.length:=by rw [← ho.len];exact hv
 have h1:=h.lc.2 _ hc v hv2
 have h2:=ho.le v hv2
 simp only [List.getD_eq_getElem?_getD,List.getElem?_eq_getElem hv,List.getElem?_eq_getElem hv',Option.getD_some] at h1 h2
 omega
set_option maxHeartbeats 2000000 in
theorem WS {m s:List (List Int)} {g:GmT} (hf:bf m s g) (b:Bool) {num den:Int} (hn:0<=num/\num<=1000000) (hd:0<=den/\den<=1000000) (tab:List Int) (htl:tab.length=g.list.length) (htb:∀ i,i<g.list.length->0<=tab.getD i 0/\tab.getD i 0<=1000000000000000) :
  bJ Tryz.prog 108 [gA g b,frA (den,num),.sl (.ints tab)] [] [] (.lf (.own 0)) [.row 3 (.ints (riT s g num den tab))]:=by
 have hB:=jX hf hn hd
 have hcl:=hf.clen
 have hle:=hf.le
 have hpl:=bC hf.prob
 have hch4:(ch4 g.ch).length=g.ch.length:=by simp [ch4]
 have hrT:(riT s g num den tab).length=g.list.length:=by simp [riT]
 refine aU Tryz.func108 rfl Tryz.ntmps108 aP (fun _ _=>by kernel_rfl) rfl rfl rfl ?_
 intro M0 w0 S φ0
 rw [Tryz.results108]
 refine ah ?_
 refine aA (α:=Nat) (fun i=>[(8,true,.int i)]) [2,3,4,7] (fun i=>[.box [.b (.sl (.k 2 g.list)),.b (.sl (.kii 4 (ch4 g.ch))),.b (.val (.bool b))],.box [.b (.val (.int .i64 den)),.b (.val (.int .i64 num))],.row 3 (.ints ((riT s g num den tab).take i))]) (fun i=>i<=g.list.length) (fun i=>g.list.length-i) 0 (by exact bZ) (Nat.zero_le _) fun i hi =>?_
 have hil:((riT s g num den tab).take i).length=i:=by rw [List.length_take,hrT];omega
 simp only [xr,simprocAttr]
 refine ah ?_
 refine aj amQ (fun hc =>?_) (fun hc =>?_)
 ·have hc:=of_decide_eq_true hc
  have hi':i<g.list.length:=by omega
  have h4:=jV (show i<g.ch.length by omega)
  have hrl:=hf.c.len i (by omega)
  have h4l:((ch4 g.ch).getD i []).length=(g.ch.getD i []).length:=by rw [h4,List.length_map]
  have hnx:(riT s g num den tab).take (i+1)=(riT s g num den tab).take i++[riN num den (g.ch.getD i []) tab s.length]:=by rw [bD (by omega) 0,wU hi']
  refine ah ?_
  refine aA (α:=Nat) (fun r=>[(10,true,.int r),(9,true,.int (riN num den (g.ch.getD i []) tab r))]) [2,3,4,7,8] (fun r=>[.box [.b (.sl (.k 2 g.list)),.b (.sl (.kii 4 (ch4 g.ch))),.b (.val (.bool b))],.box [.b (.val (.int .i64 den)),.b (.val (.int .i64 num))],.row 3 (.ints ((riT s g num den tab).take i))]) (fun r=>r<=s.length) (fun r=>s.length-r) 0 (by exact bZ) (Nat.zero_le _) fun r hr =>?_
  simp only [xr,simprocAttr]
  refine ah ?_
  refine aj amQ (fun he =>?_) (fun he =>?_)
  ·have he:=of_decide_eq_true he
   have hr':r<s.length:=by omega
   have h42:=lV (show i<g.ch.length by omega) (show r<(g.ch.getD i []).length by omega)
   have h42l:(((ch4 g.ch).getD i []).getD r []).length=((g.ch.getD i []).getD r []).length:=by rw [h42,List.length_map]
   have hok:=hf.c.row i r (by omega) hr'
   have hrow4:=kP hf.prob hok
   refine ah ?_
   refine aA (α:=Nat) (fun k=>[(12,true,.int k),(11,true,.int (riL num den ((g.ch.getD i []).getD r []) tab k))]) [2,3,4,7,8,9,10] (fun k=>[.box [.b (.sl (.k 2 g.list)),.b (.sl (.kii 4 (ch4 g.ch))),.b (.val (.bool b))],.box [.b (.val (.int .i64 den)),.b (.val (.int .i64 num))],.row 3 (.ints ((riT s g num den tab).take i))]) (fun k=>k<=((g.ch.getD i []).getD r []).length) (fun k=>((g.ch.getD i []).getD r []).length-k) 0 (by exact bZ) (Nat.zero_le _) fun k hk =>?_
   simp only [xr,simprocAttr]
   refine ah ?_
   refine aj amQ (fun hh =>?_) (fun hh =>?_)
   ·have hh:=of_decide_eq_true hh
    have hk':k<((g.ch.getD i []).getD r []).length:=by omega
    have hse:(((ch4 g.ch).getD i []).getD r []).getD k []=c4 (((g.ch.getD i []).getD r []).getD k []):=by rw [h42,iC hk' [] []]
    obtain ⟨t1,t2⟩:=hB.to_ hi' hr' hk'
    obtain ⟨b1,b2⟩:=hB.bd i r k hi' hr' hk'
    obtain ⟨_,_,_,_,_,_,_,m1,m2,m3,m4⟩:=Cc (Bc hok hk') (num:=num) (den:=den) (by omega) (by omega) (by omega) (by omega)
    have e2:(c4 (((g.ch.getD i []).getD r []).getD k [])).getD 1 0=(((g.ch.getD i []).getD r []).getD k []).getD 1 0:=rfl
    have v1:0<=tab.getD ((((g.ch.getD i []).getD r []).getD k []).getD 1 0).toNat 0/\tab.getD ((((g.ch.getD i []).getD r []).getD k []).getD 1 0).toNat 0<=1000000000000000:=htb _ t1
    refine ah ?_
    rw [hse,e2]
    ((try refine Or.inl ?_);refine ⟨_,(zV (((g.ch.getD i []).getD r []).getD k []) (num,den) m1 (by simp only;omega) m3 (by simp only;omega)),.inl rfl,?_⟩;refine amC ?_)
    ((try refine Or.inl ?_);refine ⟨_,(zW _ _),.inl rfl,?_⟩;refine amC ?_)
    refine ah ?_
    have hS:riS num den ((g.ch.getD i []).getD r []) tab k=max (cO num den (((g.ch.getD i []).getD r []).getD k [])+tab.getD ((((g.ch.getD i []).getD r []).getD k []).getD 1 0).toNat 0) 0:=rfl
    refine aj amQ (fun hw =>?_) (fun hw =>?_)
    ·have hw:=Ik.1 hw
     rw [← hS] at hw
     have hnext:riL num den ((g.ch.getD i []).getD r []) tab (k+1)=riS num den ((g.ch.getD i []).getD r []) tab k:=if_pos hw
     refine ah ?_
     rw [← hS]
     refine ⟨k+1,by omega,by omega,?_⟩
     rw [hnext]
     refine .inr ⟨3,Nat.le_of_ble_eq_true rfl,aS ?_ rfl rfl rfl⟩
     exact bZ
    ·have hw:¬ (riL num den ((g.ch.getD i []).getD r []) tab k<0\/riS num den ((g.ch.getD i []).getD r []) tab k<riL num den ((g.ch.getD i []).getD r []) tab k):=fun h=>by
      rw [hS] at h
      have:=Ik.2 h
      rw [hw] at this
      cases this
     have hnext:riL num den ((g.ch.getD i []).getD r []) tab (k+1)=riL num den ((g.ch.getD i []).getD r []) tab k:=if_neg hw
     refine ah ?_
     refine ⟨k+1,by omega,by omega,?_⟩
     rw [hnext]
     refine .inr ⟨3,Nat.le_of_ble_eq_true rfl,aS ?_ rfl rfl rfl⟩
     exact bZ
   ·have hh:=of_decide_eq_false hh
    have hk':k=((g.ch.getD i []).getD r []).length:=by omega
    subst hk'
    refine ah ?_
    ((try refine Or.inl ?_);refine ⟨_,(zW _ _),.inl rfl,?_⟩;refine amC ?_)
    refine ah ?_
    refine ⟨r+1,by omega,by omega,.inl ?_⟩
    exact bZ
  ·have he:=of_decide_eq_false he
   have hr':r=s.length:=by omega
   subst hr'
   refine ah ?_
   refine ⟨i+1,by omega,by omega,.inl ?_⟩
   exact bV (by rw [hnx])
 ·have hc:=of_decide_eq_false hc
  have hi':i=g.list.length:=by omega
  subst hi'
  rw [List.take_of_length_le (by omega)]
  refine ah ?_
  (simp only [aB,aH];refine aW [2] rfl ⟨rfl,trivial⟩ rfl rfl rfl rfl rfl ?_;try rfl)
end Go.Proofs.YtkcelmnbfbehbaaGreat
