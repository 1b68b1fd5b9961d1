/- The least quotient of the cycles that an adversary leaves: the reference's function on the machine. Conditions: games that are whole, requests that are such. -/
import Derived.Test.YtkcelmnbfbehbaaGreatRG3
set_option linter.all false
namespace Go.Proofs.YtkcelmnbfbehbaaGreat
open Go Go.RowKit Am
def dsp (x:Int×Int×Bool):Int×Int:=if x.2.2=true then (x.1,x.2.1) else (0,0)
def cpR:Option (Int×Int)->AV
 | none => .tup [frT (0,0),.one (.b (.val (.bool false)))]
 | some (a,b) => .tup [frT (a,b),.one (.b (.val (.bool true)))]
theorem ER {m s:List (List Int)} {g:GmT} (hf:dD m s g) (b0:Bool) {qs:List Int} (hql:qs.length=g.list.length) (ha:Bz s g.list.length qs) {o:Option (Int×Int)} (ho:EI (edQ g qs g.list.length) o) :
  Does Tryz.prog 139 [gA g b0,.sl (.ints qs)] (.imm (cpR o)):=by
 have hcl:=hf.clen
 have hle:=hf.le
 have hB:=AQ hf ha
 refine aC Tryz.func139 rfl Tryz.ntmps139 aX (fun _ _=>by kernel_rfl) rfl (Nat.le_of_ble_eq_true rfl) ?_
 intro M0 w0
 rw [Tryz.results139]
 refine ah ?_
 refine au (α:=Int×Int×Bool) (fun x=>[(7,true,.bool x.2.2)]) [1,2,4,6] (fun x=>[.box [.b (.sl (.k 2 g.list)),.b (.sl (.kii 4 (ch4 g.ch))),.b (.val (.bool b0))],.box [.b (.val (.int .i64 0)),.b (.val (.int .i64 0))],.box [.b (.val (.int .i64 (dsp x).1)),.b (.val (.int .i64 (dsp x).2))]]) (fun x=>LqI (edQ g qs g.list.length) x.1 x.2.1 x.2.2) (fun x=>muL x.1 x.2.1) (1048576,1,false) (by exact aV) (LqI.first _) fun x hx =>?_
 obtain ⟨a,b,fd⟩:=x
 have hx:LqI (edQ g qs g.list.length) a b fd:=hx
 have hC:Does Tryz.prog 172 [gA g b0,.sl (.ints qs),frA ((dsp (a,b,fd)).1,(dsp (a,b,fd)).2),.bool fd] (.imm (chR (nO fd a b g.list.length (edQ g qs g.list.length) g.list.length))):=by
  cases fd
  ·have:=x9 hf b0 hql ha (p:=0) (q:=0) false (by omega) (by omega)
   rw [PD (a:=a) (b:=b)] at this
   exact this
  ·obtain ⟨h1,_⟩:=hx.yes rfl
   have h2:=hx.na
   have h3:=hx.nb
   have h4:=hx.mb
   exact x9 hf b0 hql ha (p:=a) (q:=b) true ⟨h2,h1⟩ ⟨by omega,h4⟩
 dsimp only
 simp only [xr,simprocAttr]
 refine ah ?_
 cases hh:nO fd a b g.list.length (edQ g qs g.list.length) g.list.length with
 | none =>
  obtain rfl:=LC ho (hx.miss hB hh)
  rw [hh] at hC
  ((try refine Or.inl ?_);refine ⟨_,(hC),.inl rfl,?_⟩;refine amC ?_)
  refine ah ?_
  refine aj amQ (fun hz =>?_) (fun hz =>?_)
  ·refine ah ?_
   refine ny ?_
   cases fd<;>rfl
  ·cases hz
 | some cg =>
  obtain ⟨c,gg⟩:=cg
  obtain ⟨_,_,_,_,h5,h6⟩:=hx.hit hB hh
  rw [hh] at hC
  have hC:Does Tryz.prog 172 [gA g b0,.sl (.ints qs),frA ((dsp (a,b,fd)).1,(dsp (a,b,fd)).2),.bool fd] (.imm (.tup [frT (qN c gg,qD c gg),.one (.b (.val (.bool true)))])):=hC
  ((try refine Or.inl ?_);refine ⟨_,(hC),.inl rfl,?_⟩;refine amC ?_)
  refine ah ?_
  refine aj amQ (fun hz =>?_) (fun hz =>?_)
  ·cases hz
  ·refine ah ?_
   refine ⟨(qN c gg,qD c gg,true),h5,h6,.inr ⟨3,Nat.le_of_ble_eq_true rfl,aJ ?_ rfl rfl rfl⟩⟩
   exact aV
def uY (row:List Bool) (r k:Nat):List Bool:=(List.range row.length).map fun j=>if j<k then decide (j=r) else row.getD j false
theorem WG (row:List Bool) (r:Nat):uY row r 0=row:=by
 unfold uY
 refine List.ext_getElem (by simp) fun j h1 h2 =>?_
 simp [h2]
theorem Ea (row:List Bool) (r k:Nat):(uY row r k).length=row.length:=by simp [uY]
theorem acS (row:List Bool) (r:Nat):uY row r row.length=EU row.length r:=by
 unfold uY EU
 refine List.map_congr_left fun j hj =>?_
 rw [if_pos (List.mem_range.1 hj)]
theorem WH {row:List Bool} {r k:Nat} {v:Bool} (hk:k<row.length) (hv:v=decide (k=r)):(uY row r k).set k v=uY row r (k+1):=by
 refine List.ext_getElem (by rw [List.length_set,Ea,Ea]) fun j h1 h2 =>?_
 have hg:∀ k (h:j<(uY row r k).length),(uY row r k)[j]=if j<k then decide (j=r) else row.getD j false:=fun k h=>by simp [uY]
 rw [List.getElem_set]
 by_cases e:k=j
 ·subst e
  rw [if_pos rfl,hg,if_pos (by omega),hv]
 ·rw [if_neg e,hg,hg]
  by_cases h:j<k
  ·rw [if_pos h,if_pos (by omega)]
  ·rw [if_neg h,if_neg (by omega)]
theorem Nq {n q:Nat} (hn:n<=1000) (hq:q<=1000) {ml:List (List Bool)} (hml:Dim n q ml) {i r:Nat} (hi:i<n):bG Tryz.prog 174 [.sl (.bbo ml),.int i,.int r] [] [] (.lf (.own 0)) [.row 192 (.bbo (oz q ml i r))]:=by
 have hl:=hml.len
 have hal:(oz q ml i r).length=n:=(Jl hml hi).len
 refine bY Tryz.func174 rfl Tryz.ntmps174 aX (fun _ _=>by kernel_rfl) rfl rfl rfl ?_
 intro M0 w0 S φ0
 rw [Tryz.results174]
 refine ah ?_
 refine au (α:=Nat) (fun j=>[(8,true,.int j)]) [0,1,2,7] (fun j=>[.row 192 (.bbo ((oz q ml i r).take j))]) (fun j=>j<=n) (fun j=>n-j) 0 (by exact aV) (Nat.zero_le _) fun j hj =>?_
 have htl:((oz q ml i r).take j).length<=1000:=by rw [List.length_take];omega
 simp only [xr,simprocAttr]
 refine ah ?_
 refine aj amQ (fun hc =>?_) (fun hc =>?_)
 ·have hc:=of_decide_eq_true hc
  have hj':j<n:=by omega
  have hrw:=hml.row j hj'
  refine ah ?_
  refine au (α:=Nat) (fun k=>[(10,true,.int k)]) [0,1,2,7,8,9] (fun k=>[.row 192 (.bbo ((oz q ml i r).take j)),.row 4 (.bo (uY (ml.getD j []) r k))]) (fun k=>k<=q/\(j≠i->k=0)) (fun k=>q-k) 0 (by exact bI (by rw [WG])) ⟨Nat.zero_le _,fun _=>rfl⟩ fun k hk =>?_
  obtain ⟨hk,hk0⟩:=hk
  have hml2:=Ea (ml.getD j []) r k
  simp only [xr,simprocAttr]
  refine ah ?_
  refine aj amQ (fun hw =>?_) (fun hw =>?_)
  ·have hd:k<(uY (ml.getD j []) r k).length/\j=i:=by
    cases hd:decide ((k:Int)<((uY (ml.getD j []) r k).length:Int))
    ·rw [hd] at hw;cases hw
    ·rw [hd] at hw
     have h1:=of_decide_eq_true hd
     have h2:=of_decide_eq_true hw
     omega
   obtain ⟨hk1,rfl⟩:=hd
   have hst:=WH (row:=ml.getD j []) (r:=r) (k:=k) (v:=decide ((k:Int)=(r:Int))) (by omega) (decide_eq_decide.2 (by omega))
   refine ah ?_
   refine ⟨k+1,by omega,fun h=>absurd rfl h,by omega,.inl ?_⟩
   exact bI (by rw [← hst])
  ·have hrow:uY (ml.getD j []) r k=(oz q ml i r).getD j []:=by
    rw [xB (by omega)]
    by_cases e:j=i
    ·subst e
     have hk':k=q:=by
      have h1:¬ (k:Int)<((uY (ml.getD j []) r k).length:Int):=fun h=>by
       rw [decide_eq_true h,cond_true] at hw
       exact absurd rfl (of_decide_eq_false hw)
      omega
     rw [if_pos rfl,hk',← hrw,acS]
    ·rw [if_neg e,hk0 e,WG]
   rw [hrow]
   (refine aU 1 rfl ?_;simp only [xz,simprocAttr])
   refine ah ?_
   refine ⟨j+1,by omega,by omega,.inr ⟨1,Nat.le_of_ble_eq_true rfl,aJ ?_ rfl rfl rfl⟩⟩
   exact bI (by rw [eH (by omega) []];rfl)
 ·have hc:=of_decide_eq_false hc
  have hj':j=n:=by omega
  subst hj'
  have hfull:(oz q ml i r).take j=oz q ml i r:=List.take_of_length_le (by omega)
  rw [hfull]
  refine ah ?_
  (simp only [aG,aN];refine dw [0] rfl ⟨rfl,trivial⟩ rfl rfl rfl rfl rfl ?_;try rfl)
theorem Yi {m s:List (List Int)} {g:GmT} (hf:dD m s g) (b:Bool) {num den:Int} (hn:0<=num/\num<=1000000) (hd:0<=den/\den<=1000000) {ml:List (List Bool)} (hml:Dim g.list.length s.length ml) {B:Bool} (hBi:B=true↔¬ Keep g.list.length (yh s.length ml) (gmE g num den)) :
  Does Tryz.prog 173 [gA g b,frA (den,num),.sl (.bbo ml)] (.imm (.bool B)):=by
 have hle:=hf.le
 obtain ⟨ks,W,hX,h0,h1,h2⟩:=GI hf hn hd ml
 have hWl:((List.range g.list.length).map W).length=g.list.length:=by simp
 refine aC Tryz.func173 rfl Tryz.ntmps173 aX (fun _ _=>by kernel_rfl) rfl (Nat.le_of_ble_eq_true rfl) ?_
 intro M0 w0
 rw [Tryz.results173]
 refine ah ?_
 (refine .inr (.inl (fU (Ez hf b hn hd hml hX) rfl rfl rfl rfl rfl rfl rfl ?_));refine amC ?_)
 refine ah ?_
 refine au (α:=Nat) (fun i=>[(8,true,.int i)]) [2,3,4,7] (fun i=>[.box [.b (.sl (.k 2 g.list)),.b (.sl (.kii 4 (ch4 g.ch))),.b (.val (.bool b))],.box [.b (.val (.int .i64 den)),.b (.val (.int .i64 num))],.row 3 (.ints ((List.range g.list.length).map W))]) (fun i=>i<=g.list.length/\∀ j,j<i->50000000000000000<=W j) (fun i=>g.list.length-i) 0 (by exact aV) ⟨Nat.zero_le _,fun j hj=>absurd hj (Nat.not_lt_zero j)⟩ fun i hi =>?_
 obtain ⟨hi,hall⟩:=hi
 simp only [xr,simprocAttr]
 refine ah ?_
 refine aj amQ (fun hc =>?_) (fun hc =>?_)
 ·have hc:=of_decide_eq_true hc
  have hi':i<g.list.length:=by omega
  have hat:((List.range g.list.length).map W).getD i 0=W i:=fK hi'
  refine ah ?_
  refine aj amQ (fun hv =>?_) (fun hv =>?_)
  ·have hv:=of_decide_eq_true hv
   rw [hat] at hv
   have hB:B=false:=by
    cases hb:B
    ·rfl
    ·exact absurd (h2 i hi' hv) (hBi.1 hb)
   subst hB
   refine ah ?_
   refine bV ?_
   rfl
  ·have hv:=of_decide_eq_false hv
   rw [hat] at hv
   refine ah ?_
   refine ⟨i+1,hi',fun j hj =>?_,by omega,.inl ?_⟩
   ·by_cases e:j=i
    ·subst e;omega
    ·exact hall j (by omega)
   ·exact aV
 ·have hc:=of_decide_eq_false hc
  have hi':i=g.list.length:=by omega
  subst hi'
  have hB:B=true:=hBi.2 ((h1 hall).no (by omega))
  subst hB
  refine ah ?_
  refine bV ?_
  rfl
theorem U1 {m s:List (List Int)} {g:GmT} (hf:dD m s g) (b:Bool) {num den:Int} (hn:0<=num/\num<=1000000) (hd:0<=den/\den<=1000000) {qs:List Int} (hql:qs.length=g.list.length) (ha:ac5 s g num den qs g.list.length) :
  bG Tryz.prog 140 [gA g b,frA (den,num)] [] [] (.lf (.own 0)) [.row 3 (.ints qs)]:=by
 have hcl:=hf.clen
 have hle:=hf.le
 have hpl:=aQ hf.prob
 have hch4:(ch4 g.ch).length=g.ch.length:=by simp [ch4]
 have hany:Does Tryz.prog 107 [gA g b] (.imm (.sl (.bbo (List.replicate g.list.length (List.replicate s.length true))))):=nP (Kz hf b)
 rw [← Vw g.list.length s.length qs] at hany
 refine bY Tryz.func140 rfl Tryz.ntmps140 aX (fun _ _=>by kernel_rfl) rfl rfl rfl ?_
 intro M0 w0 S φ0
 rw [Tryz.results140]
 refine ah ?_
 ((try refine Or.inl ?_);refine ⟨_,(hany),amF,?_⟩;refine amC ?_)
 refine ah ?_
 refine au (α:=Nat) (fun i=>[(7,true,.int i),(5,true,.sl (.bbo (jQ g.list.length s.length qs i)))]) [2,3,6] (fun i=>[.box [.b (.sl (.k 2 g.list)),.b (.sl (.kii 4 (ch4 g.ch))),.b (.val (.bool b))],.box [.b (.val (.int .i64 den)),.b (.val (.int .i64 num))],.row 3 (.ints (qs.take i))]) (fun i=>i<=g.list.length) (fun i=>g.list.length-i) 0 (by exact aV) (Nat.zero_le _) fun i hi =>?_
 have htl:(qs.take i).length<=60:=by rw [List.length_take];omega
 simp only [xr,simprocAttr]
 refine ah ?_
 refine aj amQ (fun hc =>?_) (fun hc =>?_)
 ·have hc:=of_decide_eq_true hc
  have hi':i<g.list.length:=by omega
  obtain ⟨R,hR,hRs,hR1,hR2⟩:=ha.at_ i hi'
  have hdim:=DC g.list.length s.length qs i
  have hask:∀ r:Nat,Does Tryz.prog 174 [.sl (.bbo (jQ g.list.length s.length qs i)),.int i,.int r] (.imm (.sl (.bbo (oz s.length (jQ g.list.length s.length qs i) i r)))):=fun r=>nP (Nq (by omega) (by omega) hdim hi')
  refine ah ?_
  refine au (α:=Nat) (fun r=>[(8,true,.int r)]) [2,3,5,6,7] (fun r=>[.box [.b (.sl (.k 2 g.list)),.b (.sl (.kii 4 (ch4 g.ch))),.b (.val (.bool b))],.box [.b (.val (.int .i64 den)),.b (.val (.int .i64 num))],.row 3 (.ints (qs.take i))]) (fun r=>r<=R) (fun r=>R-r) 0 (by exact aV) (Nat.zero_le _) fun r hr =>?_
  have hlo:Does Tryz.prog 173 [gA g b,frA (den,num),.sl (.bbo (oz s.length (jQ g.list.length s.length qs i) i r))] (.imm (.bool (decide (r=R)))):=Yi hf b hn hd (Jl hdim hi') (by
   rw [decide_eq_true_iff]
   constructor
   ·intro e;rw [e];exact hR1
   ·intro h
    exact Classical.byContradiction fun e=>h (hR2 r (by omega)))
  simp only [xr,simprocAttr]
  refine ah ?_
  ((try refine Or.inl ?_);refine ⟨_,(hask r),amF,?_⟩;refine amC ?_)
  ((try refine Or.inl ?_);refine ⟨_,(hlo),.inl rfl,?_⟩;refine amC ?_)
  refine ah ?_
  refine aj amQ (fun hw =>?_) (fun hw =>?_)
  ·have hr':r≠R:=fun e=>by rw [decide_eq_true e] at hw;cases hw
   refine ah ?_
   refine ⟨r+1,by omega,by omega,.inl ?_⟩
   exact aV
  ·have hr':r=R:=by
    cases hd:decide (r=R)
    ·rw [hd] at hw;cases hw
    ·exact of_decide_eq_true hd
   subst hr'
   have hnext:=Fa (q:=s.length) hi' hR
   have hask2:=hask r
   rw [hnext] at hask2
   refine ah ?_
   ((try refine Or.inl ?_);refine ⟨_,(hask2),amF,?_⟩;refine amC ?_)
   refine ah ?_
   refine ⟨i+1,by omega,by omega,.inr ⟨3,Nat.le_of_ble_eq_true rfl,aJ ?_ rfl rfl rfl⟩⟩
   exact bI (by rw [eH (by omega) 0,hR];rfl)
 ·have hc:=of_decide_eq_false hc
  have hi':i=g.list.length:=by omega
  subst hi'
  rw [← hql,List.take_length]
  refine ah ?_
  (simp only [aG,aN];refine dw [2] rfl ⟨rfl,trivial⟩ rfl rfl rfl rfl rfl ?_;try rfl)
theorem PI {m s:List (List Int)} {t:bW} {g:GmT} (hx:GmX m s t g) (b:Bool) {num den:Int} (hn:0<=num/\num<=1000000) (hd:0<=den/\den<=1000000) {B:Bool} (hBi:B=true↔∃ C,CrP g.list.length (rqR s) (gmE g num den) C):Does Tryz.prog 46 [gA g b,frA (den,num)] (.imm (.bool B)):=by
 have hf:=hx.full
 have hB:=zq hf hn hd
 have hle:=hf.le
 have hpos:=hf.pos
 have hml:=O5 g.list.length s.length true
 have hok:=CY hB (List.replicate g.list.length (List.replicate s.length true))
 have hC0:SpC (gmS s g num den (List.replicate g.list.length (List.replicate s.length true))) (fun _ _ => -1):=⟨fun i r hi hr=>by omega,fun i r hi hr=>by omega⟩
 obtain ⟨V0,hV0⟩:=Gv (g:=gmS s g num den (List.replicate g.list.length (List.replicate s.length true))) (give:=gv) (ch:=fun _ _ => -1) (fun _ _ _ _=>rfl) (by decide)
 obtain ⟨ks,W,hX⟩:=Xc hok (by omega) (by decide) _ _ V0 (Nat.le_refl _) hC0 hV0
 have hend:=hX.end (a:=(g.list.length:Int)+1) (gain:=fun i r k=>eX num den (((g.ch.getD i []).getD r []).getD k [])) hok (by omega) hC0 (fun i r k _ _ _=>rfl)
 have hend:qH g.list.length (fun i r=>r<s.length/\((List.replicate g.list.length (List.replicate s.length true)).getD i []).getD r false=true) (gmE g num den) ((g.list.length:Int)+1) gv (g.list.length*10000000000) W:=hend
 have hend2:qH g.list.length (rqR s) (gmE g num den) ((g.list.length:Int)+1) gv (g.list.length*10000000000) W:=by
  refine ⟨hend.pos,fun i r hi hr=>hend.alg i r hi ⟨hr,?_⟩,fun i hi h0 =>?_,hend.gap⟩
  ·simp [hi,show r<s.length from hr]
  ·obtain ⟨r,⟨hr,_⟩,h⟩:=hend.adv i hi h0
   exact ⟨r,hr,h⟩
 have hgv:gv=100000000000000000:=rfl
 have hM:(g.list.length:Int)*10000000000<=600000000000:=by omega
 have key:decide (W 0<50000000000000000)=B:=by
  cases hBv:B
  ·refine decide_eq_false fun hlt =>?_
   have hno:¬ ∃ C,CrP g.list.length (rqR s) (gmE g num den) C:=fun h=>by rw [hBi.2 h] at hBv;cases hBv
   apply hno
   have h0:W 0<=g.list.length*10000000000:=by
    rcases hend2.gap 0 hpos with h | h<;>omega
   have hend3:qH g.list.length (rqR s) (gmE g num den) ((g.list.length+1:Nat):Int) gv (g.list.length*10000000000) W:=by rw [Int.natCast_add];exact hend2
   obtain ⟨C,hC⟩:=hend3.MG hB.eok (by omega) (by rw [Int.natCast_add];omega) (by omega)
   refine mimic hx hn.1 hd.1 (fun i=>i<g.list.length/\W i<=g.list.length*10000000000) C ⟨0,hpos,hpos,h0⟩ fun j hj hP=>⟨(hC j hj hP.2).1,fun r hr =>?_⟩
   obtain ⟨t,w,h1,h2,h3⟩:=(hC j hj hP.2).2 r hr
   exact ⟨t,w,h1,⟨(hB.eok j r t w hj hr h1).1,h2⟩,h3⟩
  ·refine decide_eq_true ?_
   obtain ⟨C,hC⟩:=hBi.1 hBv
   have h1:=Int.mul_le_mul (show (g.list.length:Int)+1<=61 by omega) (show (g.list.length:Int)*119000000<=60*119000000 by omega) (by omega) (by omega)
   have:=hend2.small hB.eok (by omega) (by omega) (by omega) hC 0 hpos
   omega
 rw [← key]
 have h1:Does Tryz.prog 107 [gA g b] (.imm (.sl (.bbo (List.replicate g.list.length (List.replicate s.length true))))):=nP (Kz hf b)
 have h2:Does Tryz.prog 106 [gA g b,frA (den,num),.sl (.bbo (List.replicate g.list.length (List.replicate s.length true)))] (.imm (.sl (.ints ((List.range g.list.length).map W)))):=nP (Ez hf b hn hd hml hX)
 have hWl:((List.range g.list.length).map W).length=g.list.length:=by simp
 have hW0:((List.range g.list.length).map W).getD 0 0=W 0:=fK hpos
 refine aC Tryz.func46 rfl Tryz.ntmps46 aX (fun _ _=>by kernel_rfl) rfl (Nat.le_of_ble_eq_true rfl) ?_
 intro M0 w0
 rw [Tryz.results46]
 refine ah ?_
 ((try refine Or.inl ?_);refine ⟨_,(h1),amF,?_⟩;refine amC ?_)
 ((try refine Or.inl ?_);refine ⟨_,(h2),amF,?_⟩;refine amC ?_)
 refine ah ?_
 refine bV ?_
 rw [← hW0]
abbrev grR (o:Option (Int×Int)):AV := .tup [frT (grV o),blT o.isSome]
set_option maxHeartbeats 2000000 in
theorem Nr {m s:List (List Int)} {t:bW} {g:GmT} (hx:GmX m s t g) (b0:Bool) {o:Option (Int×Int)} (ho:yU s g o):Does Tryz.prog 85 [gA g b0] (.imm (grR o)):=by
 have hf:=hx.full
 have hcl:=hf.clen
 have hle:=hf.le
 refine aC Tryz.func85 rfl Tryz.ntmps85 aX (fun _ _=>by kernel_rfl) rfl (Nat.le_of_ble_eq_true rfl) ?_
 intro M0 w0
 rw [Tryz.results85]
 refine ah ?_
 refine au (α:=Int×Int) (fun _=>[]) [1,2,4] (fun p=>[.box [.b (.sl (.k 2 g.list)),.b (.sl (.kii 4 (ch4 g.ch))),.b (.val (.bool b0))],.box [.b (.val (.int .i64 0)),.b (.val (.int .i64 0))],.box [.b (.val (.int .i64 p.1)),.b (.val (.int .i64 p.2))]]) (fun p=>GrI s g p.1 p.2) (fun p=>muR p.1 p.2) (0,1) (by exact aV) (GrI.first s g) fun p hp =>?_
 obtain ⟨a,b⟩:=p
 have hp:GrI s g a b:=hp
 have hna:=hp.na
 have hma:=hp.ma
 have hnb:=hp.nb
 have hmb:=hp.mb
 have hof:=Yg (a,b)
 dsimp only
 simp only [xr,simprocAttr]
 refine ah ?_
 by_cases hC:uU s g a b
 ·obtain rfl:=tN ho (hp.done hC)
  have hh:=PI hx b0 (num:=a) (den:=b) ⟨hna,by omega⟩ ⟨by omega,by omega⟩ (B:=true) ⟨fun _=>hC,fun _=>rfl⟩
  ((try refine Or.inl ?_);refine ⟨_,(hof),.inl rfl,?_⟩;refine amC ?_)
  ((try refine Or.inl ?_);refine ⟨_,(hh),.inl rfl,?_⟩;refine amC ?_)
  refine ah ?_
  refine aj amQ (fun hz =>?_) (fun hz =>?_)
  ·cases hz
  ·refine ah ?_
   refine ny ?_
   rfl
 ·have hh:=PI hx b0 (num:=a) (den:=b) ⟨hna,by omega⟩ ⟨by omega,by omega⟩ (B:=false) ⟨fun h=>(by cases h),fun h=>absurd h hC⟩
  obtain ⟨qs,hql,hask,hno⟩:=OM hf (num:=a) (den:=b) ⟨hna,by omega⟩ ⟨by omega,by omega⟩ (Yu hx hna (by omega) hC) g.list.length (Nat.le_refl _)
  have haq:Bz s g.list.length qs:=fun i hi=>by
   obtain ⟨r,h1,h2,_⟩:=hask.at_ i hi
   exact ⟨r,h1,h2⟩
  have hA:Does Tryz.prog 140 [gA g b0,frA (b,a)] (.imm (.sl (.ints qs))):=nP (U1 hf b0 (num:=a) (den:=b) ⟨hna,by omega⟩ ⟨by omega,by omega⟩ hql hask)
  obtain ⟨lo,hlo⟩:=Bj (AQ hf haq)
  obtain ⟨hst1,hst2⟩:=UM hf hp haq hno hlo
  have hch:=ER hf b0 hql haq hlo
  ((try refine Or.inl ?_);refine ⟨_,(hof),.inl rfl,?_⟩;refine amC ?_)
  ((try refine Or.inl ?_);refine ⟨_,(hh),.inl rfl,?_⟩;refine amC ?_)
  refine ah ?_
  refine aj amQ (fun hz =>?_) (fun hz =>?_)
  ·refine ah ?_
   cases lo with
   | none =>
    obtain rfl:=tN ho (hst1 rfl)
    have hch:Does Tryz.prog 139 [gA g b0,.sl (.ints qs)] (.imm (.tup [frT (0,0),.one (.b (.val (.bool false)))])):=hch
    (refine amB ?_;refine bM 1 [(9,[3]),(10,[3])] [3] [(9,[]),(10,[])] ?_;refine mg ?_)
    ((try refine Or.inl ?_);refine ⟨_,(hof),amF,?_⟩;refine vN ?_)
    ((try refine Or.inl ?_);refine ⟨_,(hA),amF,?_⟩;refine vN ?_)
    ((try refine Or.inl ?_);refine ⟨_,(hch),amF,?_⟩;refine vN ?_)
    refine ah ?_
    refine aj amQ (fun hy =>?_) (fun hy =>?_)
    ·refine ah ?_
     refine ny ?_
     rfl
    ·cases hy
   | some p =>
    obtain ⟨c,d⟩:=p
    obtain ⟨k1,k2⟩:=hst2 c d rfl
    have hch:Does Tryz.prog 139 [gA g b0,.sl (.ints qs)] (.imm (.tup [frT (c,d),.one (.b (.val (.bool true)))])):=hch
    (refine amB ?_;refine bM 1 [(9,[3]),(10,[3])] [3] [(9,[]),(10,[])] ?_;refine mg ?_)
    ((try refine Or.inl ?_);refine ⟨_,(hof),amF,?_⟩;refine vN ?_)
    ((try refine Or.inl ?_);refine ⟨_,(hA),amF,?_⟩;refine vN ?_)
    ((try refine Or.inl ?_);refine ⟨_,(hch),amF,?_⟩;refine vN ?_)
    refine ah ?_
    refine aj amQ (fun hy =>?_) (fun hy =>?_)
    ·cases hy
    ·refine ah ?_
     refine ⟨(c,d),k1,k2,.inr ⟨3,Nat.le_of_ble_eq_true rfl,aJ ?_ rfl rfl rfl⟩⟩
     exact aV
  ·cases hz
open Classical in
noncomputable def grW (m s:List (List Int)) (x:Int):Option (Int×Int):=if h:(gmQ m s x).2=false/\∃ o,yU s (gmQ m s x).1 o then Classical.choose h.2 else none
theorem Nh {m s:List (List Int)} {x:Int} (h:(gmQ m s x).2=false):yU s (gmQ m s x).1 (grW m s x):=by
 have hex:=YN (xU h)
 unfold grW
 rw [dif_pos ⟨h,hex⟩]
 exact Classical.choose_spec hex
theorem Ib {m s:List (List Int)} {x:Int} (h:(gmQ m s x).2=true):grW m s x=none:=by
 unfold grW
 rw [dif_neg (fun e=>by rw [h] at e;cases e.1)]
noncomputable def grP (m s:List (List Int)) (x:Int):(Int×Int)×Bool:=(grV (grW m s x),(grW m s x).isSome)
theorem zA (m s:List (List Int)) (x:Int):Does Tryz.prog 28 [prA m s,.int x] (.imm (.tup [frT (grP m s x).1,blT (grP m s x).2])):=by
 refine aC Tryz.func28 rfl Tryz.ntmps28 aX (fun _ _=>by kernel_rfl) rfl (Nat.le_of_ble_eq_true rfl) ?_
 intro M0 w0
 rw [Tryz.results28]
 refine ah ?_
 cases hg:(gmQ m s x).2
 ·have hr:=YK (xU hg) (Nh hg)
  (refine .inr (.inl (bP [] (JW hg) rfl rfl rfl rfl trivial rfl rfl rfl rfl ?_));refine amC ?_)
  refine ah ?_
  refine aj amQ (fun hz =>?_) (fun hz =>?_)
  ·cases hz
  refine ah ?_
  ((try refine Or.inl ?_);refine ⟨_,(hr),.inl rfl,?_⟩;refine amC ?_)
  refine ah ?_
  refine ny ?_
  rfl
 ·(refine .inr (.inl (fU (JV hg) rfl rfl rfl rfl rfl rfl rfl ?_));refine amC ?_)
  refine ah ?_
  refine aj amQ (fun hc =>?_) (fun hc =>?_)
  ·refine ah ?_
   refine ny ?_
   unfold grP
   rw [Ib hg]
   rfl
  ·cases hc
theorem zV (m s:List (List Int)) (x:Int):Does Tryz.prog 29 [prA m s,.int x] (.imm (.tup [frT (grP m s x).1,blT (grP m s x).2])):=by
 refine aC Tryz.func29 rfl Tryz.ntmps29 aX (fun _ _=>by kernel_rfl) rfl (Nat.le_of_ble_eq_true rfl) ?_
 intro M0 w0
 rw [Tryz.results29]
 refine ah ?_
 cases hq:(gmQ m s x).2
 ·have ht:=zu hq
  obtain ⟨t,hx⟩:=afe hq
  have hr:=Nr hx false (Nh hq)
  ((try refine Or.inl ?_);refine ⟨_,(KC ht),amF,?_⟩;refine amC ?_)
  rw [hq]
  refine ah ?_
  refine aj amQ (fun hz =>?_) (fun hz =>?_)
  ·cases hz
  refine ah ?_
  ((try refine Or.inl ?_);refine ⟨_,(hr),.inl rfl,?_⟩;refine amC ?_)
  refine ah ?_
  refine ny ?_
  rfl
 ·have hb:grP m s x=((0,0),false):=by unfold grP;rw [Ib hq];rfl
  rw [hb]
  cases ht:bn m s x []
  ·((try refine Or.inl ?_);refine ⟨_,(U5 ht),amF,?_⟩;refine amC ?_)
   refine ah ?_
   refine aj amQ (fun hc =>?_) (fun hc =>?_)
   ·refine ah ?_
    refine ny ?_
    rfl
   ·cases hc
  ·((try refine Or.inl ?_);refine ⟨_,(KC ht),amF,?_⟩;refine amC ?_)
   rw [hq]
   refine ah ?_
   refine aj amQ (fun hc =>?_) (fun hc =>?_)
   ·refine ah ?_
    refine ny ?_
    rfl
   ·cases hc
end Go.Proofs.YtkcelmnbfbehbaaGreat
