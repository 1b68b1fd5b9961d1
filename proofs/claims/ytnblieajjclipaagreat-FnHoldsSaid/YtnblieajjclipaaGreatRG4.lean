/- The least quotient of the cycles that an adversary leaves: the reference's function on the machine. Conditions: games that are whole, requests that are such. -/
import Derived.Test.YtnblieajjclipaaGreatRG3
import Derived.Test.YtnblieajjclipaaGreatZArC
set_option linter.all false
namespace Go.Proofs.YtnblieajjclipaaGreat
open Go Go.RowKit Am
def dsp (x:Int×Int×Bool):Int×Int:=if x.2.2=true then (x.1,x.2.1) else (0,0)
def cpR:Option (Int×Int)->AV
 | none => .tup [frT (0,0),.one (.b (.val (.bool false)))]
 | some (a,b) => .tup [frT (a,b),.one (.b (.val (.bool true)))]
theorem Fe {m s:List (List Int)} {g:GmT} (hf:aU m s g) (b0:Bool) {qs:List Int} (hql:qs.length=g.list.length) (ha:rF s g.list.length qs) {o:Option (Int×Int)} (ho:Ho (edQ g qs g.list.length) o) :
  Does Tryz.prog 88 [gA g b0,.sl (.ints qs)] (.imm (cpR o)):=by
 have hcl:=hf.clen
 have hle:=hf.le
 have hB:=xM hf ha
 refine aF Tryz.func88 rfl Tryz.ntmps88 aQ (fun _ _=>by kernel_rfl) rfl (Nat.le_of_ble_eq_true rfl) ?_
 intro M0 w0
 rw [Tryz.results88]
 refine ah ?_
 refine aA (α:=Int×Int×Bool) (fun x=>[(7,true,.bool x.2.2)]) [1,2,4,6] (fun x=>[.box [.b (.sl (.k 2 g.list)),.b (.sl (.kii 4 (ch4 g.ch))),.b (.val (.bool b0))],.box [.b (.val (.int .i64 0)),.b (.val (.int .i64 0))],.box [.b (.val (.int .i64 (dsp x).1)),.b (.val (.int .i64 (dsp x).2))]]) (fun x=>LqI (edQ g qs g.list.length) x.1 x.2.1 x.2.2) (fun x=>muL x.1 x.2.1) (1048576,1,false) (by exact dJ) (LqI.first _) fun x hx =>?_
 obtain ⟨a,b,fd⟩:=x
 have hx:LqI (edQ g qs g.list.length) a b fd:=hx
 have hC:Does Tryz.prog 150 [gA g b0,.sl (.ints qs),frA ((dsp (a,b,fd)).1,(dsp (a,b,fd)).2),.bool fd] (.imm (chR (nD fd a b g.list.length (edQ g qs g.list.length) g.list.length))):=by
  cases fd
  ·have:=yu hf b0 hql ha (p:=0) (q:=0) false (by omega) (by omega)
   rw [PY (a:=a) (b:=b)] at this
   exact this
  ·obtain ⟨h1,_⟩:=hx.yes rfl
   have h2:=hx.na
   have h3:=hx.nb
   have h4:=hx.mb
   exact yu hf b0 hql ha (p:=a) (q:=b) true ⟨h2,h1⟩ ⟨by omega,h4⟩
 dsimp only
 simp only [xr,simprocAttr]
 refine ah ?_
 cases hh:nD fd a b g.list.length (edQ g qs g.list.length) g.list.length with
 | none =>
  obtain rfl:=WB ho (hx.miss hB hh)
  rw [hh] at hC
  ((try refine Or.inl ?_);refine ⟨_,(hC),.inl rfl,?_⟩;refine amC ?_)
  refine ah ?_
  refine aj amQ (fun hz =>?_) (fun hz =>?_)
  ·refine ah ?_
   refine AU ?_
   cases fd<;>rfl
  ·cases hz
 | some cg =>
  obtain ⟨c,gg⟩:=cg
  obtain ⟨_,_,_,_,h5,h6⟩:=hx.hit hB hh
  rw [hh] at hC
  have hC:Does Tryz.prog 150 [gA g b0,.sl (.ints qs),frA ((dsp (a,b,fd)).1,(dsp (a,b,fd)).2),.bool fd] (.imm (.tup [frT (qN c gg,qD c gg),.one (.b (.val (.bool true)))])):=hC
  ((try refine Or.inl ?_);refine ⟨_,(hC),.inl rfl,?_⟩;refine amC ?_)
  refine ah ?_
  refine aj amQ (fun hz =>?_) (fun hz =>?_)
  ·cases hz
  ·refine ah ?_
   refine ⟨(qN c gg,qD c gg,true),h5,h6,.inr ⟨3,Nat.le_of_ble_eq_true rfl,aT ?_ rfl rfl rfl⟩⟩
   exact dJ
def uN (row:List Bool) (r k:Nat):List Bool:=(List.range row.length).map fun j=>if j<k then decide (j=r) else row.getD j false
theorem WE (row:List Bool) (r:Nat):uN row r 0=row:=by
 unfold uN
 refine List.ext_getElem (by simp) fun j h1 h2 =>?_
 simp [h2]
theorem En (row:List Bool) (r k:Nat):(uN row r k).length=row.length:=by simp [uN]
theorem acn (row:List Bool) (r:Nat):uN row r row.length=Fp row.length r:=by
 unfold uN Fp
 refine List.map_congr_left fun j hj =>?_
 rw [if_pos (List.mem_range.1 hj)]
theorem WG {row:List Bool} {r k:Nat} {v:Bool} (hk:k<row.length) (hv:v=decide (k=r)):(uN row r k).set k v=uN row r (k+1):=by
 refine List.ext_getElem (by rw [List.length_set,En,En]) fun j h1 h2 =>?_
 have hg:∀ k (h:j<(uN row r k).length),(uN row r k)[j]=if j<k then decide (j=r) else row.getD j false:=fun k h=>by simp [uN]
 rw [List.getElem_set]
 by_cases e:k=j
 ·subst e
  rw [if_pos rfl,hg,if_pos (by omega),hv]
 ·rw [if_neg e,hg,hg]
  by_cases h:j<k
  ·rw [if_pos h,if_pos (by omega)]
  ·rw [if_neg h,if_neg (by omega)]
theorem Ns {n q:Nat} (hn:n<=1000) (hq:q<=1000) {ml:List (List Bool)} (hml:Dim n q ml) {i r:Nat} (hi:i<n):bP Tryz.prog 91 [.sl (.bbo ml),.int i,.int r] [] [] (.lf (.own 0)) [.row 186 (.bbo (nT q ml i r))]:=by
 have hl:=hml.len
 have hal:(nT q ml i r).length=n:=(JA hml hi).len
 refine aZ Tryz.func91 rfl Tryz.ntmps91 aQ (fun _ _=>by kernel_rfl) rfl rfl rfl ?_
 intro M0 w0 S φ0
 rw [Tryz.results91]
 refine ah ?_
 refine aA (α:=Nat) (fun j=>[(8,true,.int j)]) [0,1,2,7] (fun j=>[.row 186 (.bbo ((nT q ml i r).take j))]) (fun j=>j<=n) (fun j=>n-j) 0 (by exact dJ) (Nat.zero_le _) fun j hj =>?_
 have htl:((nT q ml i r).take j).length<=1000:=by rw [List.length_take];omega
 simp only [xr,simprocAttr]
 refine ah ?_
 refine aj amQ (fun hc =>?_) (fun hc =>?_)
 ·have hc:=of_decide_eq_true hc
  have hj':j<n:=by omega
  have hrw:=hml.row j hj'
  refine ah ?_
  refine aA (α:=Nat) (fun k=>[(10,true,.int k)]) [0,1,2,7,8,9] (fun k=>[.row 186 (.bbo ((nT q ml i r).take j)),.row 4 (.bo (uN (ml.getD j []) r k))]) (fun k=>k<=q/\(j≠i->k=0)) (fun k=>q-k) 0 (by exact dw (by rw [WE])) ⟨Nat.zero_le _,fun _=>rfl⟩ fun k hk =>?_
  obtain ⟨hk,hk0⟩:=hk
  have hml2:=En (ml.getD j []) r k
  simp only [xr,simprocAttr]
  refine ah ?_
  refine aj amQ (fun hw =>?_) (fun hw =>?_)
  ·have hd:k<(uN (ml.getD j []) r k).length/\j=i:=by
    cases hd:decide ((k:Int)<((uN (ml.getD j []) r k).length:Int))
    ·rw [hd] at hw;cases hw
    ·rw [hd] at hw
     have h1:=of_decide_eq_true hd
     have h2:=of_decide_eq_true hw
     omega
   obtain ⟨hk1,rfl⟩:=hd
   have hst:=WG (row:=ml.getD j []) (r:=r) (k:=k) (v:=decide ((k:Int)=(r:Int))) (by omega) (decide_eq_decide.2 (by omega))
   refine ah ?_
   refine ⟨k+1,by omega,fun h=>absurd rfl h,by omega,.inl ?_⟩
   exact dw (by rw [← hst])
  ·have hrow:uN (ml.getD j []) r k=(nT q ml i r).getD j []:=by
    rw [xE (by omega)]
    by_cases e:j=i
    ·subst e
     have hk':k=q:=by
      have h1:¬ (k:Int)<((uN (ml.getD j []) r k).length:Int):=fun h=>by
       rw [decide_eq_true h,cond_true] at hw
       exact absurd rfl (of_decide_eq_false hw)
      omega
     rw [if_pos rfl,hk',← hrw,acn]
    ·rw [if_neg e,hk0 e,WE]
   rw [hrow]
   (refine aK 1 rfl ?_;simp only [xz,simprocAttr])
   refine ah ?_
   refine ⟨j+1,by omega,by omega,.inr ⟨1,Nat.le_of_ble_eq_true rfl,aT ?_ rfl rfl rfl⟩⟩
   exact dw (by rw [eU (by omega) []];rfl)
 ·have hc:=of_decide_eq_false hc
  have hj':j=n:=by omega
  subst hj'
  have hfull:(nT q ml i r).take j=nT q ml i r:=List.take_of_length_le (by omega)
  rw [hfull]
  refine ah ?_
  (simp only [aC,aH];refine bf [0] rfl ⟨rfl,trivial⟩ rfl rfl rfl rfl rfl ?_;try rfl)
theorem Yd {m s:List (List Int)} {g:GmT} (hf:aU m s g) (b:Bool) {num den:Int} (hn:0<=num/\num<=5000000000) (hd:0<=den/\den<=5000000000) {ml:List (List Bool)} (hml:Dim g.list.length s.length ml) {B:Bool} (hBi:B=true↔¬ Keep g.list.length (uK s.length ml) (gmE g num den)) :
  Does Tryz.prog 90 [gA g b,frA (den,num),.sl (.bbo ml)] (.imm (.bool B)):=by
 have hle:=hf.le
 obtain ⟨ks,W,hX,h0,h1,h2⟩:=GZ hf hn hd ml
 have hWl:((List.range g.list.length).map W).length=g.list.length:=by simp
 refine aF Tryz.func90 rfl Tryz.ntmps90 aQ (fun _ _=>by kernel_rfl) rfl (Nat.le_of_ble_eq_true rfl) ?_
 intro M0 w0
 rw [Tryz.results90]
 refine ah ?_
 (refine .inr (.inl (gJ (EO hf b hn hd hml hX) rfl rfl rfl rfl rfl rfl rfl ?_));refine amC ?_)
 refine ah ?_
 refine aA (α:=Nat) (fun i=>[(8,true,.int i)]) [2,3,4,7] (fun i=>[.box [.b (.sl (.k 2 g.list)),.b (.sl (.kii 4 (ch4 g.ch))),.b (.val (.bool b))],.box [.b (.val (.int .i64 den)),.b (.val (.int .i64 num))],.row 3 (.ints ((List.range g.list.length).map W))]) (fun i=>i<=g.list.length/\∀ j,j<i->50000000000000000<=W j) (fun i=>g.list.length-i) 0 (by exact dJ) ⟨Nat.zero_le _,fun j hj=>absurd hj (Nat.not_lt_zero j)⟩ fun i hi =>?_
 obtain ⟨hi,hall⟩:=hi
 simp only [xr,simprocAttr]
 refine ah ?_
 refine aj amQ (fun hc =>?_) (fun hc =>?_)
 ·have hc:=of_decide_eq_true hc
  have hi':i<g.list.length:=by omega
  have hat:((List.range g.list.length).map W).getD i 0=W i:=eP hi'
  refine ah ?_
  refine aj amQ (fun hv =>?_) (fun hv =>?_)
  ·have hv:=of_decide_eq_true hv
   rw [hat] at hv
   have hB:B=false:=by
    cases hb:B
    ·rfl
    ·exact absurd (h2 i hi' hv) (hBi.1 hb)
   subst hB
   refine ah ?_
   refine bJ ?_
   rfl
  ·have hv:=of_decide_eq_false hv
   rw [hat] at hv
   refine ah ?_
   refine ⟨i+1,hi',fun j hj =>?_,by omega,.inl ?_⟩
   ·by_cases e:j=i
    ·subst e;omega
    ·exact hall j (by omega)
   ·exact dJ
 ·have hc:=of_decide_eq_false hc
  have hi':i=g.list.length:=by omega
  subst hi'
  have hB:B=true:=hBi.2 ((h1 hall).no (by omega))
  subst hB
  refine ah ?_
  refine bJ ?_
  rfl
theorem KD {m s:List (List Int)} {g:GmT} (hf:aU m s g) (b:Bool) {num den:Int} (hn:0<=num/\num<=5000000000) (hd:0<=den/\den<=5000000000) {qs:List Int} (hql:qs.length=g.list.length) (ha:Tf s g num den qs g.list.length) :
  bP Tryz.prog 41 [gA g b,frA (den,num)] [] [] (.lf (.own 0)) [.row 3 (.ints qs)]:=by
 have hcl:=hf.clen
 have hle:=hf.le
 have hpl:=bI hf.prob
 have hch4:(ch4 g.ch).length=g.ch.length:=by simp [ch4]
 have hany:Does Tryz.prog 89 [gA g b] (.imm (.sl (.bbo (List.replicate g.list.length (List.replicate s.length true))))):=nG (KC hf b)
 rw [← Vr g.list.length s.length qs] at hany
 refine aZ Tryz.func41 rfl Tryz.ntmps41 aQ (fun _ _=>by kernel_rfl) rfl rfl rfl ?_
 intro M0 w0 S φ0
 rw [Tryz.results41]
 refine ah ?_
 ((try refine Or.inl ?_);refine ⟨_,(hany),amF,?_⟩;refine amC ?_)
 refine ah ?_
 refine aA (α:=Nat) (fun i=>[(7,true,.int i),(5,true,.sl (.bbo (jf g.list.length s.length qs i)))]) [2,3,6] (fun i=>[.box [.b (.sl (.k 2 g.list)),.b (.sl (.kii 4 (ch4 g.ch))),.b (.val (.bool b))],.box [.b (.val (.int .i64 den)),.b (.val (.int .i64 num))],.row 3 (.ints (qs.take i))]) (fun i=>i<=g.list.length) (fun i=>g.list.length-i) 0 (by exact dJ) (Nat.zero_le _) fun i hi =>?_
 have htl:(qs.take i).length<=60:=by rw [List.length_take];omega
 simp only [xr,simprocAttr]
 refine ah ?_
 refine aj amQ (fun hc =>?_) (fun hc =>?_)
 ·have hc:=of_decide_eq_true hc
  have hi':i<g.list.length:=by omega
  obtain ⟨R,hR,hRs,hR1,hR2⟩:=ha.at_ i hi'
  have hdim:=DT g.list.length s.length qs i
  have hask:∀ r:Nat,Does Tryz.prog 91 [.sl (.bbo (jf g.list.length s.length qs i)),.int i,.int r] (.imm (.sl (.bbo (nT s.length (jf g.list.length s.length qs i) i r)))):=fun r=>nG (Ns (by omega) (by omega) hdim hi')
  refine ah ?_
  refine aA (α:=Nat) (fun r=>[(8,true,.int r)]) [2,3,5,6,7] (fun r=>[.box [.b (.sl (.k 2 g.list)),.b (.sl (.kii 4 (ch4 g.ch))),.b (.val (.bool b))],.box [.b (.val (.int .i64 den)),.b (.val (.int .i64 num))],.row 3 (.ints (qs.take i))]) (fun r=>r<=R) (fun r=>R-r) 0 (by exact dJ) (Nat.zero_le _) fun r hr =>?_
  have hlo:Does Tryz.prog 90 [gA g b,frA (den,num),.sl (.bbo (nT s.length (jf g.list.length s.length qs i) i r))] (.imm (.bool (decide (r=R)))):=Yd hf b hn hd (JA hdim hi') (by
   rw [decide_eq_true_iff]
   constructor
   ·intro e;rw [e];exact hR1
   ·intro h
    exact Classical.byContradiction fun e=>h (hR2 r (by omega)))
  simp only [xr,simprocAttr]
  refine ah ?_
  ((try refine Or.inl ?_);refine ⟨_,(hask r),amF,?_⟩;refine amC ?_)
  ((try refine Or.inl ?_);refine ⟨_,(hlo),.inl rfl,?_⟩;refine amC ?_)
  refine ah ?_
  refine aj amQ (fun hw =>?_) (fun hw =>?_)
  ·have hr':r≠R:=fun e=>by rw [decide_eq_true e] at hw;cases hw
   refine ah ?_
   refine ⟨r+1,by omega,by omega,.inl ?_⟩
   exact dJ
  ·have hr':r=R:=by
    cases hd:decide (r=R)
    ·rw [hd] at hw;cases hw
    ·exact of_decide_eq_true hd
   subst hr'
   have hnext:=FH (q:=s.length) hi' hR
   have hask2:=hask r
   rw [hnext] at hask2
   refine ah ?_
   ((try refine Or.inl ?_);refine ⟨_,(hask2),amF,?_⟩;refine amC ?_)
   refine ah ?_
   refine ⟨i+1,by omega,by omega,.inr ⟨3,Nat.le_of_ble_eq_true rfl,aT ?_ rfl rfl rfl⟩⟩
   exact dw (by rw [eU (by omega) 0,hR];rfl)
 ·have hc:=of_decide_eq_false hc
  have hi':i=g.list.length:=by omega
  subst hi'
  rw [← hql,List.take_length]
  refine ah ?_
  (simp only [aC,aH];refine bf [2] rfl ⟨rfl,trivial⟩ rfl rfl rfl rfl rfl ?_;try rfl)
abbrev grR (o:Option (Int×Int)):AV := .tup [frT (grV o),blT o.isSome]
set_option maxHeartbeats 2000000 in
theorem vY {m s:List (List Int)} {t:dD} {g:GmT} (hx:GmX m s t g) (b0:Bool) {o:Option (Int×Int)} (ho:zh s g o):Does Tryz.prog 40 [gA g b0] (.imm (grR o)):=by
 have hf:=hx.full
 have hcl:=hf.clen
 have hle:=hf.le
 refine aF Tryz.func40 rfl Tryz.ntmps40 aQ (fun _ _=>by kernel_rfl) rfl (Nat.le_of_ble_eq_true rfl) ?_
 intro M0 w0
 rw [Tryz.results40]
 refine ah ?_
 refine aA (α:=Int×Int) (fun _=>[]) [1,2,4] (fun p=>[.box [.b (.sl (.k 2 g.list)),.b (.sl (.kii 4 (ch4 g.ch))),.b (.val (.bool b0))],.box [.b (.val (.int .i64 0)),.b (.val (.int .i64 0))],.box [.b (.val (.int .i64 p.1)),.b (.val (.int .i64 p.2))]]) (fun p=>GrI s g p.1 p.2) (fun p=>muR p.1 p.2) (0,1) (by exact dJ) (GrI.first s g) fun p hp =>?_
 obtain ⟨a,b⟩:=p
 have hp:GrI s g a b:=hp
 have hna:=hp.na
 have hma:=hp.ma
 have hnb:=hp.nb
 have hmb:=hp.mb
 have hof:=Ij (a,b)
 dsimp only
 simp only [xr,simprocAttr]
 refine ah ?_
 by_cases hC:vw s g a b
 ·obtain rfl:=Ei ho (hp.done hC)
  have hh:=P6 hx b0 (num:=a) (den:=b) ⟨hna,by omega⟩ ⟨by omega,by omega⟩ (B:=true) ⟨fun _=>hC,fun _=>rfl⟩
  ((try refine Or.inl ?_);refine ⟨_,(hof),.inl rfl,?_⟩;refine amC ?_)
  ((try refine Or.inl ?_);refine ⟨_,(hh),.inl rfl,?_⟩;refine amC ?_)
  refine ah ?_
  refine aj amQ (fun hz =>?_) (fun hz =>?_)
  ·cases hz
  ·refine ah ?_
   refine AU ?_
   rfl
 ·have hh:=P6 hx b0 (num:=a) (den:=b) ⟨hna,by omega⟩ ⟨by omega,by omega⟩ (B:=false) ⟨fun h=>(by cases h),fun h=>absurd h hC⟩
  obtain ⟨qs,hql,hask,hno⟩:=Hw hf (num:=a) (den:=b) ⟨hna,by omega⟩ ⟨by omega,by omega⟩ (Qj hx hna (by omega) hC) g.list.length (Nat.le_refl _)
  have haq:rF s g.list.length qs:=fun i hi=>by
   obtain ⟨r,h1,h2,_⟩:=hask.at_ i hi
   exact ⟨r,h1,h2⟩
  have hA:Does Tryz.prog 41 [gA g b0,frA (b,a)] (.imm (.sl (.ints qs))):=nG (KD hf b0 (num:=a) (den:=b) ⟨hna,by omega⟩ ⟨by omega,by omega⟩ hql hask)
  obtain ⟨lo,hlo⟩:=IW (xM hf haq)
  obtain ⟨hst1,hst2⟩:=UR hf hp haq hno hlo
  have hch:=Fe hf b0 hql haq hlo
  ((try refine Or.inl ?_);refine ⟨_,(hof),.inl rfl,?_⟩;refine amC ?_)
  ((try refine Or.inl ?_);refine ⟨_,(hh),.inl rfl,?_⟩;refine amC ?_)
  refine ah ?_
  refine aj amQ (fun hz =>?_) (fun hz =>?_)
  ·refine ah ?_
   cases lo with
   | none =>
    obtain rfl:=Ei ho (hst1 rfl)
    have hch:Does Tryz.prog 88 [gA g b0,.sl (.ints qs)] (.imm (.tup [frT (0,0),.one (.b (.val (.bool false)))])):=hch
    (refine amB ?_;refine gq 1 [(9,[3]),(10,[3])] [3] [(9,[]),(10,[])] ?_;refine xw ?_)
    ((try refine Or.inl ?_);refine ⟨_,(hof),amF,?_⟩;refine zk ?_)
    ((try refine Or.inl ?_);refine ⟨_,(hA),amF,?_⟩;refine zk ?_)
    ((try refine Or.inl ?_);refine ⟨_,(hch),amF,?_⟩;refine zk ?_)
    refine ah ?_
    refine aj amQ (fun hy =>?_) (fun hy =>?_)
    ·refine ah ?_
     refine AU ?_
     rfl
    ·cases hy
   | some p =>
    obtain ⟨c,d⟩:=p
    obtain ⟨k1,k2⟩:=hst2 c d rfl
    have hch:Does Tryz.prog 88 [gA g b0,.sl (.ints qs)] (.imm (.tup [frT (c,d),.one (.b (.val (.bool true)))])):=hch
    (refine amB ?_;refine gq 1 [(9,[3]),(10,[3])] [3] [(9,[]),(10,[])] ?_;refine xw ?_)
    ((try refine Or.inl ?_);refine ⟨_,(hof),amF,?_⟩;refine zk ?_)
    ((try refine Or.inl ?_);refine ⟨_,(hA),amF,?_⟩;refine zk ?_)
    ((try refine Or.inl ?_);refine ⟨_,(hch),amF,?_⟩;refine zk ?_)
    refine ah ?_
    refine aj amQ (fun hy =>?_) (fun hy =>?_)
    ·cases hy
    ·refine ah ?_
     refine ⟨(c,d),k1,k2,.inr ⟨3,Nat.le_of_ble_eq_true rfl,aT ?_ rfl rfl rfl⟩⟩
     exact dJ
  ·cases hz
open Classical in
noncomputable def grW (m s:List (List Int)) (x:Int):Option (Int×Int):=if h:(gmQ m s x).2=false/\∃ o,zh s (gmQ m s x).1 o then Classical.choose h.2 else none
theorem UQ {m s:List (List Int)} {x:Int} (h:(gmQ m s x).2=false):zh s (gmQ m s x).1 (grW m s x):=by
 have hex:=YD (fM h)
 unfold grW
 rw [dif_pos ⟨h,hex⟩]
 exact Classical.choose_spec hex
theorem PW {m s:List (List Int)} {x:Int} (h:(gmQ m s x).2=true):grW m s x=none:=by
 unfold grW
 rw [dif_neg (fun e=>by rw [h] at e;cases e.1)]
noncomputable def grP (m s:List (List Int)) (x:Int):(Int×Int)×Bool:=(grV (grW m s x),(grW m s x).isSome)
theorem Ae (m s:List (List Int)) (x:Int):Does Tryz.prog 33 [prA m s,.int x] (.imm (.tup [frT (grP m s x).1,blT (grP m s x).2])):=by
 refine aF Tryz.func33 rfl Tryz.ntmps33 aQ (fun _ _=>by kernel_rfl) rfl (Nat.le_of_ble_eq_true rfl) ?_
 intro M0 w0
 rw [Tryz.results33]
 refine ah ?_
 cases hq:(gmQ m s x).2
 ·have ht:=gV hq
  obtain ⟨t,hx⟩:=X0 hq
  have hr:=vY hx false (UQ hq)
  ((try refine Or.inl ?_);refine ⟨_,(fC ht),amF,?_⟩;refine amC ?_)
  rw [hq]
  refine ah ?_
  refine aj amQ (fun hz =>?_) (fun hz =>?_)
  ·cases hz
  refine ah ?_
  ((try refine Or.inl ?_);refine ⟨_,(hr),.inl rfl,?_⟩;refine amC ?_)
  refine ah ?_
  refine AU ?_
  rfl
 ·have hb:grP m s x=((0,0),false):=by unfold grP;rw [PW hq];rfl
  rw [hb]
  cases ht:bH m s x []
  ·((try refine Or.inl ?_);refine ⟨_,(kY ht),amF,?_⟩;refine amC ?_)
   refine ah ?_
   refine aj amQ (fun hc =>?_) (fun hc =>?_)
   ·refine ah ?_
    refine AU ?_
    rfl
   ·cases hc
  ·((try refine Or.inl ?_);refine ⟨_,(fC ht),amF,?_⟩;refine amC ?_)
   rw [hq]
   refine ah ?_
   refine aj amQ (fun hc =>?_) (fun hc =>?_)
   ·refine ah ?_
    refine AU ?_
    rfl
   ·cases hc
end Go.Proofs.YtnblieajjclipaaGreat
