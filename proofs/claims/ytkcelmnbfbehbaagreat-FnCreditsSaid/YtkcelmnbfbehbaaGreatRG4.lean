/- The least quotient of the cycles that an adversary leaves: the reference's function on the machine. Conditions: games that are whole, requests that are such. -/
import Derived.Test.YtkcelmnbfbehbaaGreatRG3
import Derived.Test.YtkcelmnbfbehbaaGreatZArC
set_option linter.all false
namespace Go.Proofs.YtkcelmnbfbehbaaGreat
open Go Go.RowKit Am
def dsp (x:Int×Int×Bool):Int×Int:=if x.2.2=true then (x.1,x.2.1) else (0,0)
def cpR:Option (Int×Int)->AV
 | none => .tup [frT (0,0),.one (.b (.val (.bool false)))]
 | some (a,b) => .tup [frT (a,b),.one (.b (.val (.bool true)))]
theorem FV {m s:List (List Int)} {g:GmT} (hf:bf m s g) (b0:Bool) {qs:List Int} (hql:qs.length=g.list.length) (ha:CX s g.list.length qs) {o:Option (Int×Int)} (ho:Ic (edQ g qs g.list.length) o) :
  Does Tryz.prog 139 [gA g b0,.sl (.ints qs)] (.imm (cpR o)):=by
 have hcl:=hf.clen
 have hle:=hf.le
 have hB:=BZ hf ha
 refine aF Tryz.func139 rfl Tryz.ntmps139 aP (fun _ _=>by kernel_rfl) rfl (Nat.le_of_ble_eq_true rfl) ?_
 intro M0 w0
 rw [Tryz.results139]
 refine ah ?_
 refine aA (α:=Int×Int×Bool) (fun x=>[(7,true,.bool x.2.2)]) [1,2,4,6] (fun x=>[.box [.b (.sl (.k 2 g.list)),.b (.sl (.kii 4 (ch4 g.ch))),.b (.val (.bool b0))],.box [.b (.val (.int .i64 0)),.b (.val (.int .i64 0))],.box [.b (.val (.int .i64 (dsp x).1)),.b (.val (.int .i64 (dsp x).2))]]) (fun x=>LqI (edQ g qs g.list.length) x.1 x.2.1 x.2.2) (fun x=>muL x.1 x.2.1) (1048576,1,false) (by exact bZ) (LqI.first _) fun x hx =>?_
 obtain ⟨a,b,fd⟩:=x
 have hx:LqI (edQ g qs g.list.length) a b fd:=hx
 have hC:Does Tryz.prog 172 [gA g b0,.sl (.ints qs),frA ((dsp (a,b,fd)).1,(dsp (a,b,fd)).2),.bool fd] (.imm (chR (nD fd a b g.list.length (edQ g qs g.list.length) g.list.length))):=by
  cases fd
  ·have:=yD hf b0 hql ha (p:=0) (q:=0) false (by omega) (by omega)
   rw [Qb (a:=a) (b:=b)] at this
   exact this
  ·obtain ⟨h1,_⟩:=hx.yes rfl
   have h2:=hx.na
   have h3:=hx.nb
   have h4:=hx.mb
   exact yD hf b0 hql ha (p:=a) (q:=b) true ⟨h2,h1⟩ ⟨by omega,h4⟩
 dsimp only
 simp only [xr,simprocAttr]
 refine ah ?_
 cases hh:nD fd a b g.list.length (edQ g qs g.list.length) g.list.length with
 | none =>
  obtain rfl:=WO ho (hx.miss hB hh)
  rw [hh] at hC
  ((try refine Or.inl ?_);refine ⟨_,(hC),.inl rfl,?_⟩;refine amC ?_)
  refine ah ?_
  refine aj amQ (fun hz =>?_) (fun hz =>?_)
  ·refine ah ?_
   refine Dc ?_
   cases fd<;>rfl
  ·cases hz
 | some cg =>
  obtain ⟨c,gg⟩:=cg
  obtain ⟨_,_,_,_,h5,h6⟩:=hx.hit hB hh
  rw [hh] at hC
  have hC:Does Tryz.prog 172 [gA g b0,.sl (.ints qs),frA ((dsp (a,b,fd)).1,(dsp (a,b,fd)).2),.bool fd] (.imm (.tup [frT (qN c gg,qD c gg),.one (.b (.val (.bool true)))])):=hC
  ((try refine Or.inl ?_);refine ⟨_,(hC),.inl rfl,?_⟩;refine amC ?_)
  refine ah ?_
  refine aj amQ (fun hz =>?_) (fun hz =>?_)
  ·cases hz
  ·refine ah ?_
   refine ⟨(qN c gg,qD c gg,true),h5,h6,.inr ⟨3,Nat.le_of_ble_eq_true rfl,aS ?_ rfl rfl rfl⟩⟩
   exact bZ
def vC (row:List Bool) (r k:Nat):List Bool:=(List.range row.length).map fun j=>if j<k then decide (j=r) else row.getD j false
theorem WT (row:List Bool) (r:Nat):vC row r 0=row:=by
 unfold vC
 refine List.ext_getElem (by simp) fun j h1 h2 =>?_
 simp [h2]
theorem EW (row:List Bool) (r k:Nat):(vC row r k).length=row.length:=by simp [vC]
theorem acu (row:List Bool) (r:Nat):vC row r row.length=FZ row.length r:=by
 unfold vC FZ
 refine List.map_congr_left fun j hj =>?_
 rw [if_pos (List.mem_range.1 hj)]
theorem WU {row:List Bool} {r k:Nat} {v:Bool} (hk:k<row.length) (hv:v=decide (k=r)):(vC row r k).set k v=vC row r (k+1):=by
 refine List.ext_getElem (by rw [List.length_set,EW,EW]) fun j h1 h2 =>?_
 have hg:∀ k (h:j<(vC row r k).length),(vC row r k)[j]=if j<k then decide (j=r) else row.getD j false:=fun k h=>by simp [vC]
 rw [List.getElem_set]
 by_cases e:k=j
 ·subst e
  rw [if_pos rfl,hg,if_pos (by omega),hv]
 ·rw [if_neg e,hg,hg]
  by_cases h:j<k
  ·rw [if_pos h,if_pos (by omega)]
  ·rw [if_neg h,if_neg (by omega)]
theorem ND {n q:Nat} (hn:n<=1000) (hq:q<=1000) {ml:List (List Bool)} (hml:Dim n q ml) {i r:Nat} (hi:i<n):bJ Tryz.prog 174 [.sl (.bbo ml),.int i,.int r] [] [] (.lf (.own 0)) [.row 192 (.bbo (oh q ml i r))]:=by
 have hl:=hml.len
 have hal:(oh q ml i r).length=n:=(JR hml hi).len
 refine aU Tryz.func174 rfl Tryz.ntmps174 aP (fun _ _=>by kernel_rfl) rfl rfl rfl ?_
 intro M0 w0 S φ0
 rw [Tryz.results174]
 refine ah ?_
 refine aA (α:=Nat) (fun j=>[(8,true,.int j)]) [0,1,2,7] (fun j=>[.row 192 (.bbo ((oh q ml i r).take j))]) (fun j=>j<=n) (fun j=>n-j) 0 (by exact bZ) (Nat.zero_le _) fun j hj =>?_
 have htl:((oh q ml i r).take j).length<=1000:=by rw [List.length_take];omega
 simp only [xr,simprocAttr]
 refine ah ?_
 refine aj amQ (fun hc =>?_) (fun hc =>?_)
 ·have hc:=of_decide_eq_true hc
  have hj':j<n:=by omega
  have hrw:=hml.row j hj'
  refine ah ?_
  refine aA (α:=Nat) (fun k=>[(10,true,.int k)]) [0,1,2,7,8,9] (fun k=>[.row 192 (.bbo ((oh q ml i r).take j)),.row 4 (.bo (vC (ml.getD j []) r k))]) (fun k=>k<=q/\(j≠i->k=0)) (fun k=>q-k) 0 (by exact bV (by rw [WT])) ⟨Nat.zero_le _,fun _=>rfl⟩ fun k hk =>?_
  obtain ⟨hk,hk0⟩:=hk
  have hml2:=EW (ml.getD j []) r k
  simp only [xr,simprocAttr]
  refine ah ?_
  refine aj amQ (fun hw =>?_) (fun hw =>?_)
  ·have hd:k<(vC (ml.getD j []) r k).length/\j=i:=by
    cases hd:decide ((k:Int)<((vC (ml.getD j []) r k).length:Int))
    ·rw [hd] at hw;cases hw
    ·rw [hd] at hw
     have h1:=of_decide_eq_true hd
     have h2:=of_decide_eq_true hw
     omega
   obtain ⟨hk1,rfl⟩:=hd
   have hst:=WU (row:=ml.getD j []) (r:=r) (k:=k) (v:=decide ((k:Int)=(r:Int))) (by omega) (decide_eq_decide.2 (by omega))
   refine ah ?_
   refine ⟨k+1,by omega,fun h=>absurd rfl h,by omega,.inl ?_⟩
   exact bV (by rw [← hst])
  ·have hrow:vC (ml.getD j []) r k=(oh q ml i r).getD j []:=by
    rw [xQ (by omega)]
    by_cases e:j=i
    ·subst e
     have hk':k=q:=by
      have h1:¬ (k:Int)<((vC (ml.getD j []) r k).length:Int):=fun h=>by
       rw [decide_eq_true h,cond_true] at hw
       exact absurd rfl (of_decide_eq_false hw)
      omega
     rw [if_pos rfl,hk',← hrw,acu]
    ·rw [if_neg e,hk0 e,WT]
   rw [hrow]
   (refine aN 1 rfl ?_;simp only [xz,simprocAttr])
   refine ah ?_
   refine ⟨j+1,by omega,by omega,.inr ⟨1,Nat.le_of_ble_eq_true rfl,aS ?_ rfl rfl rfl⟩⟩
   exact bV (by rw [bD (by omega) []];rfl)
 ·have hc:=of_decide_eq_false hc
  have hj':j=n:=by omega
  subst hj'
  have hfull:(oh q ml i r).take j=oh q ml i r:=List.take_of_length_le (by omega)
  rw [hfull]
  refine ah ?_
  (simp only [aB,aH];refine aW [0] rfl ⟨rfl,trivial⟩ rfl rfl rfl rfl rfl ?_;try rfl)
theorem Yg {m s:List (List Int)} {g:GmT} (hf:bf m s g) (b:Bool) {num den:Int} (hn:0<=num/\num<=1000000) (hd:0<=den/\den<=1000000) {ml:List (List Bool)} (hml:Dim g.list.length s.length ml) {B:Bool} (hBi:B=true↔¬ Keep g.list.length (yH s.length ml) (gmE g num den)) :
  Does Tryz.prog 173 [gA g b,frA (den,num),.sl (.bbo ml)] (.imm (.bool B)):=by
 have hle:=hf.le
 obtain ⟨ks,W,hX,h0,h1,h2⟩:=Hw hf hn hd ml
 have hWl:((List.range g.list.length).map W).length=g.list.length:=by simp
 refine aF Tryz.func173 rfl Tryz.ntmps173 aP (fun _ _=>by kernel_rfl) rfl (Nat.le_of_ble_eq_true rfl) ?_
 intro M0 w0
 rw [Tryz.results173]
 refine ah ?_
 (refine .inr (.inl (fC (FB hf b hn hd hml hX) rfl rfl rfl rfl rfl rfl rfl ?_));refine amC ?_)
 refine ah ?_
 refine aA (α:=Nat) (fun i=>[(8,true,.int i)]) [2,3,4,7] (fun i=>[.box [.b (.sl (.k 2 g.list)),.b (.sl (.kii 4 (ch4 g.ch))),.b (.val (.bool b))],.box [.b (.val (.int .i64 den)),.b (.val (.int .i64 num))],.row 3 (.ints ((List.range g.list.length).map W))]) (fun i=>i<=g.list.length/\∀ j,j<i->50000000000000000<=W j) (fun i=>g.list.length-i) 0 (by exact bZ) ⟨Nat.zero_le _,fun j hj=>absurd hj (Nat.not_lt_zero j)⟩ fun i hi =>?_
 obtain ⟨hi,hall⟩:=hi
 simp only [xr,simprocAttr]
 refine ah ?_
 refine aj amQ (fun hc =>?_) (fun hc =>?_)
 ·have hc:=of_decide_eq_true hc
  have hi':i<g.list.length:=by omega
  have hat:((List.range g.list.length).map W).getD i 0=W i:=dI hi'
  refine ah ?_
  refine aj amQ (fun hv =>?_) (fun hv =>?_)
  ·have hv:=of_decide_eq_true hv
   rw [hat] at hv
   have hB:B=false:=by
    cases hb:B
    ·rfl
    ·exact absurd (h2 i hi' hv) (hBi.1 hb)
   subst hB
   refine ah ?_
   refine bI ?_
   rfl
  ·have hv:=of_decide_eq_false hv
   rw [hat] at hv
   refine ah ?_
   refine ⟨i+1,hi',fun j hj =>?_,by omega,.inl ?_⟩
   ·by_cases e:j=i
    ·subst e;omega
    ·exact hall j (by omega)
   ·exact bZ
 ·have hc:=of_decide_eq_false hc
  have hi':i=g.list.length:=by omega
  subst hi'
  have hB:B=true:=hBi.2 ((h1 hall).no (by omega))
  subst hB
  refine ah ?_
  refine bI ?_
  rfl
theorem Vm {m s:List (List Int)} {g:GmT} (hf:bf m s g) (b:Bool) {num den:Int} (hn:0<=num/\num<=1000000) (hd:0<=den/\den<=1000000) {qs:List Int} (hql:qs.length=g.list.length) (ha:acH s g num den qs g.list.length) :
  bJ Tryz.prog 140 [gA g b,frA (den,num)] [] [] (.lf (.own 0)) [.row 3 (.ints qs)]:=by
 have hcl:=hf.clen
 have hle:=hf.le
 have hpl:=bC hf.prob
 have hch4:(ch4 g.ch).length=g.ch.length:=by simp [ch4]
 have hany:Does Tryz.prog 107 [gA g b] (.imm (.sl (.bbo (List.replicate g.list.length (List.replicate s.length true))))):=pq (KN hf b)
 rw [← VF g.list.length s.length qs] at hany
 refine aU Tryz.func140 rfl Tryz.ntmps140 aP (fun _ _=>by kernel_rfl) rfl rfl rfl ?_
 intro M0 w0 S φ0
 rw [Tryz.results140]
 refine ah ?_
 ((try refine Or.inl ?_);refine ⟨_,(hany),amF,?_⟩;refine amC ?_)
 refine ah ?_
 refine aA (α:=Nat) (fun i=>[(7,true,.int i),(5,true,.sl (.bbo (jD g.list.length s.length qs i)))]) [2,3,6] (fun i=>[.box [.b (.sl (.k 2 g.list)),.b (.sl (.kii 4 (ch4 g.ch))),.b (.val (.bool b))],.box [.b (.val (.int .i64 den)),.b (.val (.int .i64 num))],.row 3 (.ints (qs.take i))]) (fun i=>i<=g.list.length) (fun i=>g.list.length-i) 0 (by exact bZ) (Nat.zero_le _) fun i hi =>?_
 have htl:(qs.take i).length<=60:=by rw [List.length_take];omega
 simp only [xr,simprocAttr]
 refine ah ?_
 refine aj amQ (fun hc =>?_) (fun hc =>?_)
 ·have hc:=of_decide_eq_true hc
  have hi':i<g.list.length:=by omega
  obtain ⟨R,hR,hRs,hR1,hR2⟩:=ha.at_ i hi'
  have hdim:=Et g.list.length s.length qs i
  have hask:∀ r:Nat,Does Tryz.prog 174 [.sl (.bbo (jD g.list.length s.length qs i)),.int i,.int r] (.imm (.sl (.bbo (oh s.length (jD g.list.length s.length qs i) i r)))):=fun r=>pq (ND (by omega) (by omega) hdim hi')
  refine ah ?_
  refine aA (α:=Nat) (fun r=>[(8,true,.int r)]) [2,3,5,6,7] (fun r=>[.box [.b (.sl (.k 2 g.list)),.b (.sl (.kii 4 (ch4 g.ch))),.b (.val (.bool b))],.box [.b (.val (.int .i64 den)),.b (.val (.int .i64 num))],.row 3 (.ints (qs.take i))]) (fun r=>r<=R) (fun r=>R-r) 0 (by exact bZ) (Nat.zero_le _) fun r hr =>?_
  have hlo:Does Tryz.prog 173 [gA g b,frA (den,num),.sl (.bbo (oh s.length (jD g.list.length s.length qs i) i r))] (.imm (.bool (decide (r=R)))):=Yg hf b hn hd (JR hdim hi') (by
   rw [decide_eq_true_iff]
   constructor
   ·intro e;rw [e];exact hR1
   ·intro h
    exact Classical.byContradiction fun e=>h (hR2 r (by omega)))
  simp only [xr,simprocAttr]
  refine ah ?_
  ((try refine Or.inl ?_);refine ⟨_,(hask r),amF,?_⟩;refine amC ?_)
  ((try refine Or.inl ?_);refine ⟨_,(hlo),.inl rfl,?_⟩;refine amC ?_)
  refine ah ?_
  refine aj amQ (fun hw =>?_) (fun hw =>?_)
  ·have hr':r≠R:=fun e=>by rw [decide_eq_true e] at hw;cases hw
   refine ah ?_
   refine ⟨r+1,by omega,by omega,.inl ?_⟩
   exact bZ
  ·have hr':r=R:=by
    cases hd:decide (r=R)
    ·rw [hd] at hw;cases hw
    ·exact of_decide_eq_true hd
   subst hr'
   have hnext:=Gf (q:=s.length) hi' hR
   have hask2:=hask r
   rw [hnext] at hask2
   refine ah ?_
   ((try refine Or.inl ?_);refine ⟨_,(hask2),amF,?_⟩;refine amC ?_)
   refine ah ?_
   refine ⟨i+1,by omega,by omega,.inr ⟨3,Nat.le_of_ble_eq_true rfl,aS ?_ rfl rfl rfl⟩⟩
   exact bV (by rw [bD (by omega) 0,hR];rfl)
 ·have hc:=of_decide_eq_false hc
  have hi':i=g.list.length:=by omega
  subst hi'
  rw [← hql,List.take_length]
  refine ah ?_
  (simp only [aB,aH];refine aW [2] rfl ⟨rfl,trivial⟩ rfl rfl rfl rfl rfl ?_;try rfl)
abbrev grR (o:Option (Int×Int)):AV := .tup [frT (grV o),blT o.isSome]
set_option maxHeartbeats 2000000 in
theorem NG {m s:List (List Int)} {t:dF} {g:GmT} (hx:GmX m s t g) (b0:Bool) {o:Option (Int×Int)} (ho:BH s g o):Does Tryz.prog 85 [gA g b0] (.imm (grR o)):=by
 have hf:=hx.full
 have hcl:=hf.clen
 have hle:=hf.le
 refine aF Tryz.func85 rfl Tryz.ntmps85 aP (fun _ _=>by kernel_rfl) rfl (Nat.le_of_ble_eq_true rfl) ?_
 intro M0 w0
 rw [Tryz.results85]
 refine ah ?_
 refine aA (α:=Int×Int) (fun _=>[]) [1,2,4] (fun p=>[.box [.b (.sl (.k 2 g.list)),.b (.sl (.kii 4 (ch4 g.ch))),.b (.val (.bool b0))],.box [.b (.val (.int .i64 0)),.b (.val (.int .i64 0))],.box [.b (.val (.int .i64 p.1)),.b (.val (.int .i64 p.2))]]) (fun p=>GrI s g p.1 p.2) (fun p=>muR p.1 p.2) (0,1) (by exact bZ) (GrI.first s g) fun p hp =>?_
 obtain ⟨a,b⟩:=p
 have hp:GrI s g a b:=hp
 have hna:=hp.na
 have hma:=hp.ma
 have hnb:=hp.nb
 have hmb:=hp.mb
 have hof:=Ce (a,b)
 dsimp only
 simp only [xr,simprocAttr]
 refine ah ?_
 by_cases hC:vO s g a b
 ·obtain rfl:=ES ho (hp.done hC)
  have hh:=IB hx b0 (num:=a) (den:=b) ⟨hna,by omega⟩ ⟨by omega,by omega⟩ (B:=true) ⟨fun _=>hC,fun _=>rfl⟩
  ((try refine Or.inl ?_);refine ⟨_,(hof),.inl rfl,?_⟩;refine amC ?_)
  ((try refine Or.inl ?_);refine ⟨_,(hh),.inl rfl,?_⟩;refine amC ?_)
  refine ah ?_
  refine aj amQ (fun hz =>?_) (fun hz =>?_)
  ·cases hz
  ·refine ah ?_
   refine Dc ?_
   rfl
 ·have hh:=IB hx b0 (num:=a) (den:=b) ⟨hna,by omega⟩ ⟨by omega,by omega⟩ (B:=false) ⟨fun h=>(by cases h),fun h=>absurd h hC⟩
  obtain ⟨qs,hql,hask,hno⟩:=Ph hf (num:=a) (den:=b) ⟨hna,by omega⟩ ⟨by omega,by omega⟩ (Yp hx hna (by omega) hC) g.list.length (Nat.le_refl _)
  have haq:CX s g.list.length qs:=fun i hi=>by
   obtain ⟨r,h1,h2,_⟩:=hask.at_ i hi
   exact ⟨r,h1,h2⟩
  have hA:Does Tryz.prog 140 [gA g b0,frA (b,a)] (.imm (.sl (.ints qs))):=pq (Vm hf b0 (num:=a) (den:=b) ⟨hna,by omega⟩ ⟨by omega,by omega⟩ hql hask)
  obtain ⟨lo,hlo⟩:=Jd (BZ hf haq)
  obtain ⟨hst1,hst2⟩:=Vb hf hp haq hno hlo
  have hch:=FV hf b0 hql haq hlo
  ((try refine Or.inl ?_);refine ⟨_,(hof),.inl rfl,?_⟩;refine amC ?_)
  ((try refine Or.inl ?_);refine ⟨_,(hh),.inl rfl,?_⟩;refine amC ?_)
  refine ah ?_
  refine aj amQ (fun hz =>?_) (fun hz =>?_)
  ·refine ah ?_
   cases lo with
   | none =>
    obtain rfl:=ES ho (hst1 rfl)
    have hch:Does Tryz.prog 139 [gA g b0,.sl (.ints qs)] (.imm (.tup [frT (0,0),.one (.b (.val (.bool false)))])):=hch
    (refine amB ?_;refine gu 1 [(9,[3]),(10,[3])] [3] [(9,[]),(10,[])] ?_;refine xO ?_)
    ((try refine Or.inl ?_);refine ⟨_,(hof),amF,?_⟩;refine zB ?_)
    ((try refine Or.inl ?_);refine ⟨_,(hA),amF,?_⟩;refine zB ?_)
    ((try refine Or.inl ?_);refine ⟨_,(hch),amF,?_⟩;refine zB ?_)
    refine ah ?_
    refine aj amQ (fun hy =>?_) (fun hy =>?_)
    ·refine ah ?_
     refine Dc ?_
     rfl
    ·cases hy
   | some p =>
    obtain ⟨c,d⟩:=p
    obtain ⟨k1,k2⟩:=hst2 c d rfl
    have hch:Does Tryz.prog 139 [gA g b0,.sl (.ints qs)] (.imm (.tup [frT (c,d),.one (.b (.val (.bool true)))])):=hch
    (refine amB ?_;refine gu 1 [(9,[3]),(10,[3])] [3] [(9,[]),(10,[])] ?_;refine xO ?_)
    ((try refine Or.inl ?_);refine ⟨_,(hof),amF,?_⟩;refine zB ?_)
    ((try refine Or.inl ?_);refine ⟨_,(hA),amF,?_⟩;refine zB ?_)
    ((try refine Or.inl ?_);refine ⟨_,(hch),amF,?_⟩;refine zB ?_)
    refine ah ?_
    refine aj amQ (fun hy =>?_) (fun hy =>?_)
    ·cases hy
    ·refine ah ?_
     refine ⟨(c,d),k1,k2,.inr ⟨3,Nat.le_of_ble_eq_true rfl,aS ?_ rfl rfl rfl⟩⟩
     exact bZ
  ·cases hz
open Classical in
noncomputable def grW (m s:List (List Int)) (x:Int):Option (Int×Int):=if h:(gmQ m s x).2=false/\∃ o,BH s (gmQ m s x).1 o then Classical.choose h.2 else none
theorem Va {m s:List (List Int)} {x:Int} (h:(gmQ m s x).2=false):BH s (gmQ m s x).1 (grW m s x):=by
 have hex:=YE (dS h)
 unfold grW
 rw [dif_pos ⟨h,hex⟩]
 exact Classical.choose_spec hex
theorem P9 {m s:List (List Int)} {x:Int} (h:(gmQ m s x).2=true):grW m s x=none:=by
 unfold grW
 rw [dif_neg (fun e=>by rw [h] at e;cases e.1)]
noncomputable def grP (m s:List (List Int)) (x:Int):(Int×Int)×Bool:=(grV (grW m s x),(grW m s x).isSome)
theorem AP (m s:List (List Int)) (x:Int):Does Tryz.prog 29 [prA m s,.int x] (.imm (.tup [frT (grP m s x).1,blT (grP m s x).2])):=by
 refine aF Tryz.func29 rfl Tryz.ntmps29 aP (fun _ _=>by kernel_rfl) rfl (Nat.le_of_ble_eq_true rfl) ?_
 intro M0 w0
 rw [Tryz.results29]
 refine ah ?_
 cases hq:(gmQ m s x).2
 ·have ht:=iJ hq
  obtain ⟨t,hx⟩:=acX hq
  have hr:=NG hx false (Va hq)
  ((try refine Or.inl ?_);refine ⟨_,(gG ht),amF,?_⟩;refine amC ?_)
  rw [hq]
  refine ah ?_
  refine aj amQ (fun hz =>?_) (fun hz =>?_)
  ·cases hz
  refine ah ?_
  ((try refine Or.inl ?_);refine ⟨_,(hr),.inl rfl,?_⟩;refine amC ?_)
  refine ah ?_
  refine Dc ?_
  rfl
 ·have hb:grP m s x=((0,0),false):=by unfold grP;rw [P9 hq];rfl
  rw [hb]
  cases ht:bH m s x []
  ·((try refine Or.inl ?_);refine ⟨_,(nK ht),amF,?_⟩;refine amC ?_)
   refine ah ?_
   refine aj amQ (fun hc =>?_) (fun hc =>?_)
   ·refine ah ?_
    refine Dc ?_
    rfl
   ·cases hc
  ·((try refine Or.inl ?_);refine ⟨_,(gG ht),amF,?_⟩;refine amC ?_)
   rw [hq]
   refine ah ?_
   refine aj amQ (fun hc =>?_) (fun hc =>?_)
   ·refine ah ?_
    refine Dc ?_
    rfl
   ·cases hc
end Go.Proofs.YtkcelmnbfbehbaaGreat
