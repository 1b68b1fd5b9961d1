/- The least quotient of the cycles that an adversary leaves: the reference's function on the machine. Conditions: games that are whole, requests that are such. -/
import Derived.Test.YtkcelmnbfbehbaaRG3
import Derived.Test.YtkcelmnbfbehbaaArC
set_option linter.all false
set_option linter.unusedSimpArgs false
set_option linter.unusedVariables false
namespace Go.Proofs.Ytkcelmnbfbehbaa
open Go Go.RowKit Am

/-- the ratio that the reference has so far -/
def dsp (x:Int×Int×Bool):Int×Int:=if x.2.2=true then (x.1,x.2.1) else (0,0)
def cpR:Option (Int×Int)→AV
  | none => .tup [frT (0,0),.one (.b (.val (.bool false)))]
  | some (a,b) => .tup [frT (a,b),.one (.b (.val (.bool true)))]
theorem l10Cheapest_d {m s:List (List Int)} {g:GmT} (hf:GmFull m s g) (b0:Bool) {qs:List Int} (hql:qs.length=g.list.length) (ha:AsOK s g.list.length qs) {o:Option (Int×Int)} (ho:ResL (edQ g qs g.list.length) o) :
    Does Try.prog 51 [gA g b0,.sl (.ints qs)] (.imm (cpR o)):=by
  have hcl:=hf.clen
  have hle:=hf.le
  have hB:=edQ_edB hf ha
  refine spec_imm Try.func51 rfl Try.ntmps51 cfOK (fun _ _=>by kernel_rfl) rfl (Nat.le_of_ble_eq_true rfl) ?_
  intro M0 w0
  rw [Try.results51]
  refine amGo ?_
  refine awp_rounds (α:=Int×Int×Bool) (fun x=>[(7,true,.bool x.2.2)]) [1,2,4,6] (fun x=>[.box [.b (.sl (.k 2 g.list)),.b (.sl (.kii 4 (ch4 g.ch))),.b (.val (.bool b0))],.box [.b (.val (.int .i64 0)),.b (.val (.int .i64 0))],.box [.b (.val (.int .i64 (dsp x).1)),.b (.val (.int .i64 (dsp x).2))]]) (fun x=>LqI (edQ g qs g.list.length) x.1 x.2.1 x.2.2) (fun x=>muL x.1 x.2.1) (1048576,1,false) (by ((try simp only [xk]);(repeat (refine leK_cons ?_ ?_;first | (exact amE) | rotate_left));(refine leK_nil ?_;exact (by rfl));(all_goals (try (simp only [xr,simprocAttr];try refine int_eq1 ?_))))) (LqI.first _) fun x hx => ?_
  obtain ⟨a,b,fd⟩:=x
  have hx:LqI (edQ g qs g.list.length) a b fd:=hx
  have hC:Does Try.prog 80 [gA g b0,.sl (.ints qs),frA ((dsp (a,b,fd)).1,(dsp (a,b,fd)).2),.bool fd] (.imm (chR (hitF fd a b g.list.length (edQ g qs g.list.length) g.list.length))):=by
    cases fd
    · have:=l10Cheaper_d hf b0 hql ha (p:=0) (q:=0) false (by omega) (by omega)
      rw [hitF_no (a:=a) (b:=b)] at this
      exact this
    · obtain ⟨h1,_⟩:=hx.yes rfl
      have h2:=hx.na
      have h3:=hx.nb
      have h4:=hx.mb
      exact l10Cheaper_d hf b0 hql ha (p:=a) (q:=b) true ⟨h2,h1⟩ ⟨by omega,h4⟩
  dsimp only
  simp only [xr,simprocAttr]
  refine amGo ?_
  cases hh:hitF fd a b g.list.length (edQ g qs g.list.length) g.list.length with
  | none =>
    obtain rfl:=resL_one ho (hx.miss hB hh)
    rw [hh] at hC
    ((try refine Or.inl ?_);refine ⟨_,(hC),.inl rfl,?_⟩;refine amC ?_)
    refine amGo ?_
    refine awp_cond amQ (fun hz => ?_) (fun hz => ?_)
    · refine amGo ?_
      (simp only [xec,simprocAttr];refine ⟨[_,_],⟨⟨amK,rfl⟩,rfl,trivial⟩,rfl,Imp.eq ?_⟩)
      cases fd<;>rfl
    · cases hz
  | some cg =>
    obtain ⟨c,gg⟩:=cg
    obtain ⟨_,_,_,_,h5,h6⟩:=hx.hit hB hh
    rw [hh] at hC
    have hC:Does Try.prog 80 [gA g b0,.sl (.ints qs),frA ((dsp (a,b,fd)).1,(dsp (a,b,fd)).2),.bool fd] (.imm (.tup [frT (qN c gg,qD c gg),.one (.b (.val (.bool true)))])):=hC
    ((try refine Or.inl ?_);refine ⟨_,(hC),.inl rfl,?_⟩;refine amC ?_)
    refine amGo ?_
    refine awp_cond amQ (fun hz => ?_) (fun hz => ?_)
    · cases hz
    · refine amGo ?_
      refine ⟨(qN c gg,qD c gg,true),h5,h6,.inr ⟨3,Nat.le_of_ble_eq_true rfl,leT_of ?_ rfl rfl rfl⟩⟩
      ((try simp only [xk]);(repeat (refine leK_cons ?_ ?_;first | (exact amE) | rotate_left));(refine leK_nil ?_;exact (by rfl));(all_goals (try (simp only [xr,simprocAttr];try refine int_eq1 ?_))))
end Go.Proofs.Ytkcelmnbfbehbaa
/- An adversary's requests: the reference's functions on the machine. Conditions: games that are whole, ratios in bounds. -/
set_option linter.all false
set_option linter.unusedSimpArgs false
set_option linter.unusedVariables false
namespace Go.Proofs.Ytkcelmnbfbehbaa
open Go Go.RowKit Am

/-- a row of a list of such rows, part of which is turned -/
def rowM (row:List Bool) (r k:Nat):List Bool:=(List.range row.length).map fun j=>if j<k then decide (j=r) else row.getD j false
theorem rowM_0 (row:List Bool) (r:Nat):rowM row r 0=row:=by
  unfold rowM
  refine List.ext_getElem (by simp) fun j h1 h2 => ?_
  simp [h2]
theorem rowM_len (row:List Bool) (r k:Nat):(rowM row r k).length=row.length:=by simp [rowM]
theorem rowM_n (row:List Bool) (r:Nat):rowM row r row.length=rowQ row.length r:=by
  unfold rowM rowQ
  refine List.map_congr_left fun j hj => ?_
  rw [if_pos (List.mem_range.1 hj)]
theorem rowM_set {row:List Bool} {r k:Nat} {v:Bool} (hk:k<row.length) (hv:v=decide (k=r)):(rowM row r k).set k v=rowM row r (k+1):=by
  refine List.ext_getElem (by rw [List.length_set,rowM_len,rowM_len]) fun j h1 h2 => ?_
  have hg:∀ k (h:j<(rowM row r k).length),(rowM row r k)[j]=if j<k then decide (j=r) else row.getD j false:=fun k h=>by simp [rowM]
  rw [List.getElem_set]
  by_cases e:k=j
  · subst e
    rw [if_pos rfl,hg,if_pos (by omega),hv]
  · rw [if_neg e,hg,hg]
    by_cases h:j<k
    · rw [if_pos h,if_pos (by omega)]
    · rw [if_neg h,if_neg (by omega)]
theorem l10Asked_h {n q:Nat} (hn:n≤1000) (hq:q≤1000) {ml:List (List Bool)} (hml:Dim n q ml) {i r:Nat} (hi:i<n):DoesH Try.prog 82 [.sl (.bbo ml),.int i,.int r] [] [] (.lf (.own 0)) [.row 111 (.bbo (askL q ml i r))]:=by
  have hl:=hml.len
  have hal:(askL q ml i r).length=n:=(askL_dim hml hi).len
  refine spec_hB Try.func82 rfl Try.ntmps82 cfOK (fun _ _=>by kernel_rfl) rfl rfl rfl ?_
  intro M0 w0 S φ0
  rw [Try.results82]
  refine amGo ?_
  refine awp_rounds (α:=Nat) (fun j=>[(8,true,.int j)]) [0,1,2,7] (fun j=>[.row 111 (.bbo ((askL q ml i r).take j))]) (fun j=>j≤n) (fun j=>n-j) 0 (by ((try simp only [xk]);(repeat (refine leK_cons ?_ ?_;first | (exact amE) | rotate_left));(refine leK_nil ?_;exact (by rfl));(all_goals (try (simp only [xr,simprocAttr];try refine int_eq1 ?_))))) (Nat.zero_le _) fun j hj => ?_
  have htl:((askL q ml i r).take j).length≤1000:=by rw [List.length_take];omega
  simp only [xr,simprocAttr]
  refine amGo ?_
  refine awp_cond amQ (fun hc => ?_) (fun hc => ?_)
  · have hc:=of_decide_eq_true hc
    have hj':j<n:=by omega
    have hrw:=hml.row j hj'
    refine amGo ?_
    refine awp_rounds (α:=Nat) (fun k=>[(10,true,.int k)]) [0,1,2,7,8,9] (fun k=>[.row 111 (.bbo ((askL q ml i r).take j)),.row 4 (.bo (rowM (ml.getD j []) r k))]) (fun k=>k≤q∧(j≠i→k=0)) (fun k=>q-k) 0 (by ((try simp only [xk]);(repeat (refine leK_cons ?_ ?_;first | (exact amE) | rotate_left));(refine leK_nil ?_;exact (by rw [rowM_0]));(all_goals (try (simp only [xr,simprocAttr];try refine int_eq1 ?_))))) ⟨Nat.zero_le _,fun _=>rfl⟩ fun k hk => ?_
    obtain ⟨hk,hk0⟩:=hk
    have hml2:=rowM_len (ml.getD j []) r k
    simp only [xr,simprocAttr]
    refine amGo ?_
    refine awp_cond amQ (fun hw => ?_) (fun hw => ?_)
    · have hd:k<(rowM (ml.getD j []) r k).length∧j=i:=by
        cases hd:decide ((k:Int)<((rowM (ml.getD j []) r k).length:Int))
        · rw [hd] at hw;cases hw
        · rw [hd] at hw
          have h1:=of_decide_eq_true hd
          have h2:=of_decide_eq_true hw
          omega
      obtain ⟨hk1,rfl⟩:=hd
      have hst:=rowM_set (row:=ml.getD j []) (r:=r) (k:=k) (v:=decide ((k:Int)=(r:Int))) (by omega) (decide_eq_decide.2 (by omega))
      refine amGo ?_
      refine ⟨k+1,by omega,fun h=>absurd rfl h,by omega,.inl ?_⟩
      ((try simp only [xk]);(repeat (refine leK_cons ?_ ?_;first | (exact amE) | rotate_left));(refine leK_nil ?_;exact (by rw [← hst]));(all_goals (try (simp only [xr,simprocAttr];try refine int_eq1 ?_))))
    · have hrow:rowM (ml.getD j []) r k=(askL q ml i r).getD j []:=by
        rw [askL_at (by omega)]
        by_cases e:j=i
        · subst e
          have hk':k=q:=by
            have h1:¬ (k:Int)<((rowM (ml.getD j []) r k).length:Int):=fun h=>by
              rw [decide_eq_true h,cond_true] at hw
              exact absurd rfl (of_decide_eq_false hw)
            omega
          rw [if_pos rfl,hk',← hrw,rowM_n]
        · rw [if_neg e,hk0 e,rowM_0]
      rw [hrow]
      (refine awp_frz 1 rfl ?_;simp only [xz,simprocAttr])
      refine amGo ?_
      refine ⟨j+1,by omega,by omega,.inr ⟨1,Nat.le_of_ble_eq_true rfl,leT_of ?_ rfl rfl rfl⟩⟩
      ((try simp only [xk]);(repeat (refine leK_cons ?_ ?_;first | (exact amE) | rotate_left));(refine leK_nil ?_;exact (by rw [take_getD (by omega) []];rfl));(all_goals (try (simp only [xr,simprocAttr];try refine int_eq1 ?_))))
  · have hc:=of_decide_eq_false hc
    have hj':j=n:=by omega
    subst hj'
    have hfull:(askL q ml i r).take j=askL q ml i r:=List.take_of_length_le (by omega)
    rw [hfull]
    refine amGo ?_
    (simp only [ends_normal,ends_ret];refine retH_1 [0] rfl ⟨rfl,trivial⟩ rfl rfl rfl rfl rfl ?_;try rfl)
end Go.Proofs.Ytkcelmnbfbehbaa
/- An adversary's requests: the reference's functions on the machine. Conditions: games that are whole, ratios in bounds. -/
set_option linter.all false
set_option linter.unusedSimpArgs false
set_option linter.unusedVariables false
namespace Go.Proofs.Ytkcelmnbfbehbaa
open Go Go.RowKit Am

theorem loses_d {m s:List (List Int)} {g:GmT} (hf:GmFull m s g) (b:Bool) {num den:Int} (hn:0≤num∧num≤1000000) (hd:0≤den∧den≤1000000) {ml:List (List Bool)} (hml:Dim g.list.length s.length ml) {B:Bool} (hBi:B=true↔¬ Keep g.list.length (mayR s.length ml) (gmE g num den)) :
    Does Try.prog 81 [gA g b,frA (den,num),.sl (.bbo ml)] (.imm (.bool B)):=by
  have hle:=hf.le
  obtain ⟨ks,W,hX,h0,h1,h2⟩:=values_ex hf hn hd ml
  have hWl:((List.range g.list.length).map W).length=g.list.length:=by simp
  refine spec_imm Try.func81 rfl Try.ntmps81 cfOK (fun _ _=>by kernel_rfl) rfl (Nat.le_of_ble_eq_true rfl) ?_
  intro M0 w0
  rw [Try.results81]
  refine amGo ?_
  (refine .inr (.inl (callW_b (values_h10 hf b hn hd hml hX) rfl rfl rfl rfl rfl rfl rfl ?_));refine amC ?_)
  refine amGo ?_
  refine awp_rounds (α:=Nat) (fun i=>[(8,true,.int i)]) [2,3,4,7] (fun i=>[.box [.b (.sl (.k 2 g.list)),.b (.sl (.kii 4 (ch4 g.ch))),.b (.val (.bool b))],.box [.b (.val (.int .i64 den)),.b (.val (.int .i64 num))],.row 3 (.ints ((List.range g.list.length).map W))]) (fun i=>i≤g.list.length∧∀ j,j<i→50000000000000000≤W j) (fun i=>g.list.length-i) 0 (by ((try simp only [xk]);(repeat (refine leK_cons ?_ ?_;first | (exact amE) | rotate_left));(refine leK_nil ?_;exact (by rfl));(all_goals (try (simp only [xr,simprocAttr];try refine int_eq1 ?_))))) ⟨Nat.zero_le _,fun j hj=>absurd hj (Nat.not_lt_zero j)⟩ fun i hi => ?_
  obtain ⟨hi,hall⟩:=hi
  simp only [xr,simprocAttr]
  refine amGo ?_
  refine awp_cond amQ (fun hc => ?_) (fun hc => ?_)
  · have hc:=of_decide_eq_true hc
    have hi':i<g.list.length:=by omega
    have hat:((List.range g.list.length).map W).getD i 0=W i:=mapI_getD hi'
    refine amGo ?_
    refine awp_cond amQ (fun hv => ?_) (fun hv => ?_)
    · have hv:=of_decide_eq_true hv
      rw [hat] at hv
      have hB:B=false:=by
        cases hb:B
        · rfl
        · exact absurd (h2 i hi' hv) (hBi.1 hb)
      subst hB
      refine amGo ?_
      (simp only [xe,simprocAttr];refine ⟨_,rfl,rfl,Imp.eq ?_⟩)
      rfl
    · have hv:=of_decide_eq_false hv
      rw [hat] at hv
      refine amGo ?_
      refine ⟨i+1,hi',fun j hj => ?_,by omega,.inl ?_⟩
      · by_cases e:j=i
        · subst e;omega
        · exact hall j (by omega)
      · ((try simp only [xk]);(repeat (refine leK_cons ?_ ?_;first | (exact amE) | rotate_left));(refine leK_nil ?_;exact (by rfl));(all_goals (try (simp only [xr,simprocAttr];try refine int_eq1 ?_))))
  · have hc:=of_decide_eq_false hc
    have hi':i=g.list.length:=by omega
    subst hi'
    have hB:B=true:=hBi.2 ((h1 hall).no (by omega))
    subst hB
    refine amGo ?_
    (simp only [xe,simprocAttr];refine ⟨_,rfl,rfl,Imp.eq ?_⟩)
    rfl
theorem l10Ask_h {m s:List (List Int)} {g:GmT} (hf:GmFull m s g) (b:Bool) {num den:Int} (hn:0≤num∧num≤1000000) (hd:0≤den∧den≤1000000) {qs:List Int} (hql:qs.length=g.list.length) (ha:AskI s g num den qs g.list.length) :
    DoesH Try.prog 52 [gA g b,frA (den,num)] [] [] (.lf (.own 0)) [.row 3 (.ints qs)]:=by
  have hcl:=hf.clen
  have hle:=hf.le
  have hpl:=prob_len hf.prob
  have hch4:(ch4 g.ch).length=g.ch.length:=by simp [ch4]
  have hany:Does Try.prog 37 [gA g b] (.imm (.sl (.bbo (List.replicate g.list.length (List.replicate s.length true))))):=imm_of (l10Any_h hf b)
  rw [← mayL_0 g.list.length s.length qs] at hany
  refine spec_hB Try.func52 rfl Try.ntmps52 cfOK (fun _ _=>by kernel_rfl) rfl rfl rfl ?_
  intro M0 w0 S φ0
  rw [Try.results52]
  refine amGo ?_
  ((try refine Or.inl ?_);refine ⟨_,(hany),amF,?_⟩;refine amC ?_)
  refine amGo ?_
  refine awp_rounds (α:=Nat) (fun i=>[(7,true,.int i),(5,true,.sl (.bbo (mayL g.list.length s.length qs i)))]) [2,3,6] (fun i=>[.box [.b (.sl (.k 2 g.list)),.b (.sl (.kii 4 (ch4 g.ch))),.b (.val (.bool b))],.box [.b (.val (.int .i64 den)),.b (.val (.int .i64 num))],.row 3 (.ints (qs.take i))]) (fun i=>i≤g.list.length) (fun i=>g.list.length-i) 0 (by ((try simp only [xk]);(repeat (refine leK_cons ?_ ?_;first | (exact amE) | rotate_left));(refine leK_nil ?_;exact (by rfl));(all_goals (try (simp only [xr,simprocAttr];try refine int_eq1 ?_))))) (Nat.zero_le _) fun i hi => ?_
  have htl:(qs.take i).length≤60:=by rw [List.length_take];omega
  simp only [xr,simprocAttr]
  refine amGo ?_
  refine awp_cond amQ (fun hc => ?_) (fun hc => ?_)
  · have hc:=of_decide_eq_true hc
    have hi':i<g.list.length:=by omega
    obtain ⟨R,hR,hRs,hR1,hR2⟩:=ha.at_ i hi'
    have hdim:=mayL_dim g.list.length s.length qs i
    have hask:∀ r:Nat,Does Try.prog 82 [.sl (.bbo (mayL g.list.length s.length qs i)),.int i,.int r] (.imm (.sl (.bbo (askL s.length (mayL g.list.length s.length qs i) i r)))):=fun r=>imm_of (l10Asked_h (by omega) (by omega) hdim hi')
    refine amGo ?_
    refine awp_rounds (α:=Nat) (fun r=>[(8,true,.int r)]) [2,3,5,6,7] (fun r=>[.box [.b (.sl (.k 2 g.list)),.b (.sl (.kii 4 (ch4 g.ch))),.b (.val (.bool b))],.box [.b (.val (.int .i64 den)),.b (.val (.int .i64 num))],.row 3 (.ints (qs.take i))]) (fun r=>r≤R) (fun r=>R-r) 0 (by ((try simp only [xk]);(repeat (refine leK_cons ?_ ?_;first | (exact amE) | rotate_left));(refine leK_nil ?_;exact (by rfl));(all_goals (try (simp only [xr,simprocAttr];try refine int_eq1 ?_))))) (Nat.zero_le _) fun r hr => ?_
    have hlo:Does Try.prog 81 [gA g b,frA (den,num),.sl (.bbo (askL s.length (mayL g.list.length s.length qs i) i r))] (.imm (.bool (decide (r=R)))):=loses_d hf b hn hd (askL_dim hdim hi') (by
      rw [decide_eq_true_iff]
      constructor
      · intro e;rw [e];exact hR1
      · intro h
        exact Classical.byContradiction fun e=>h (hR2 r (by omega)))
    simp only [xr,simprocAttr]
    refine amGo ?_
    ((try refine Or.inl ?_);refine ⟨_,(hask r),amF,?_⟩;refine amC ?_)
    ((try refine Or.inl ?_);refine ⟨_,(hlo),.inl rfl,?_⟩;refine amC ?_)
    refine amGo ?_
    refine awp_cond amQ (fun hw => ?_) (fun hw => ?_)
    · have hr':r≠R:=fun e=>by rw [decide_eq_true e] at hw;cases hw
      refine amGo ?_
      refine ⟨r+1,by omega,by omega,.inl ?_⟩
      ((try simp only [xk]);(repeat (refine leK_cons ?_ ?_;first | (exact amE) | rotate_left));(refine leK_nil ?_;exact (by rfl));(all_goals (try (simp only [xr,simprocAttr];try refine int_eq1 ?_))))
    · have hr':r=R:=by
        cases hd:decide (r=R)
        · rw [hd] at hw;cases hw
        · exact of_decide_eq_true hd
      subst hr'
      have hnext:=askL_next (q:=s.length) hi' hR
      have hask2:=hask r
      rw [hnext] at hask2
      refine amGo ?_
      ((try refine Or.inl ?_);refine ⟨_,(hask2),amF,?_⟩;refine amC ?_)
      refine amGo ?_
      refine ⟨i+1,by omega,by omega,.inr ⟨3,Nat.le_of_ble_eq_true rfl,leT_of ?_ rfl rfl rfl⟩⟩
      ((try simp only [xk]);(repeat (refine leK_cons ?_ ?_;first | (exact amE) | rotate_left));(refine leK_nil ?_;exact (by rw [take_getD (by omega) 0,hR];rfl));(all_goals (try (simp only [xr,simprocAttr];try refine int_eq1 ?_))))
  · have hc:=of_decide_eq_false hc
    have hi':i=g.list.length:=by omega
    subst hi'
    rw [← hql,List.take_length]
    refine amGo ?_
    (simp only [ends_normal,ends_ret];refine retH_1 [2] rfl ⟨rfl,trivial⟩ rfl rfl rfl rfl rfl ?_;try rfl)
end Go.Proofs.Ytkcelmnbfbehbaa
/- The ratio of a game: both functions on the machine. Conditions: none. -/
set_option linter.all false
set_option linter.unusedSimpArgs false
set_option linter.unusedVariables false
namespace Go.Proofs.Ytkcelmnbfbehbaa
open Go Go.RowKit Am

abbrev grR (o:Option (Int×Int)):AV := .tup [frT (grV o),blT o.isSome]
set_option maxHeartbeats 2000000 in
theorem l10Exact_d {m s:List (List Int)} {t:OffT} {g:GmT} (hx:GmX m s t g) (b0:Bool) {o:Option (Int×Int)} (ho:ResG s g o):Does Try.prog 30 [gA g b0] (.imm (grR o)):=by
  have hf:=hx.full
  have hcl:=hf.clen
  have hle:=hf.le
  refine spec_imm Try.func30 rfl Try.ntmps30 cfOK (fun _ _=>by kernel_rfl) rfl (Nat.le_of_ble_eq_true rfl) ?_
  intro M0 w0
  rw [Try.results30]
  refine amGo ?_
  refine awp_rounds (α:=Int×Int) (fun _=>[]) [1,2,4] (fun p=>[.box [.b (.sl (.k 2 g.list)),.b (.sl (.kii 4 (ch4 g.ch))),.b (.val (.bool b0))],.box [.b (.val (.int .i64 0)),.b (.val (.int .i64 0))],.box [.b (.val (.int .i64 p.1)),.b (.val (.int .i64 p.2))]]) (fun p=>GrI s g p.1 p.2) (fun p=>muR p.1 p.2) (0,1) (by ((try simp only [xk]);(repeat (refine leK_cons ?_ ?_;first | (exact amE) | rotate_left));(refine leK_nil ?_;exact (by rfl));(all_goals (try (simp only [xr,simprocAttr];try refine int_eq1 ?_))))) (GrI.first s g) fun p hp => ?_
  obtain ⟨a,b⟩:=p
  have hp:GrI s g a b:=hp
  have hna:=hp.na
  have hma:=hp.ma
  have hnb:=hp.nb
  have hmb:=hp.mb
  have hof:=l10Of_d (a,b)
  dsimp only
  simp only [xr,simprocAttr]
  refine amGo ?_
  by_cases hC:HasC s g a b
  · obtain rfl:=resG_one ho (hp.done hC)
    have hh:=holds_d hx b0 (num:=a) (den:=b) ⟨hna,by omega⟩ ⟨by omega,by omega⟩ (B:=true) ⟨fun _=>hC,fun _=>rfl⟩
    ((try refine Or.inl ?_);refine ⟨_,(hof),.inl rfl,?_⟩;refine amC ?_)
    ((try refine Or.inl ?_);refine ⟨_,(hh),.inl rfl,?_⟩;refine amC ?_)
    refine amGo ?_
    refine awp_cond amQ (fun hz => ?_) (fun hz => ?_)
    · cases hz
    · refine amGo ?_
      (simp only [xec,simprocAttr];refine ⟨[_,_],⟨⟨amK,rfl⟩,rfl,trivial⟩,rfl,Imp.eq ?_⟩)
      rfl
  · have hh:=holds_d hx b0 (num:=a) (den:=b) ⟨hna,by omega⟩ ⟨by omega,by omega⟩ (B:=false) ⟨fun h=>(by cases h),fun h=>absurd h hC⟩
    obtain ⟨qs,hql,hask,hno⟩:=askI_ex hf (num:=a) (den:=b) ⟨hna,by omega⟩ ⟨by omega,by omega⟩ (no_keep hx hna (by omega) hC) g.list.length (Nat.le_refl _)
    have haq:AsOK s g.list.length qs:=fun i hi=>by
      obtain ⟨r,h1,h2,_⟩:=hask.at_ i hi
      exact ⟨r,h1,h2⟩
    have hA:Does Try.prog 52 [gA g b0,frA (b,a)] (.imm (.sl (.ints qs))):=imm_of (l10Ask_h hf b0 (num:=a) (den:=b) ⟨hna,by omega⟩ ⟨by omega,by omega⟩ hql hask)
    obtain ⟨lo,hlo⟩:=resL_ex (edQ_edB hf haq)
    obtain ⟨hst1,hst2⟩:=gr_stepS hf hp haq hno hlo
    have hch:=l10Cheapest_d hf b0 hql haq hlo
    ((try refine Or.inl ?_);refine ⟨_,(hof),.inl rfl,?_⟩;refine amC ?_)
    ((try refine Or.inl ?_);refine ⟨_,(hh),.inl rfl,?_⟩;refine amC ?_)
    refine amGo ?_
    refine awp_cond amQ (fun hz => ?_) (fun hz => ?_)
    · refine amGo ?_
      cases lo with
      | none =>
        obtain rfl:=resG_one ho (hst1 rfl)
        have hch:Does Try.prog 51 [gA g b0,.sl (.ints qs)] (.imm (.tup [frT (0,0),.one (.b (.val (.bool false)))])):=hch
        (refine amB ?_;refine awp_anyG 1 [(9,[3]),(10,[3])] [3] [(9,[]),(10,[])] ?_;refine amNG ?_)
        ((try refine Or.inl ?_);refine ⟨_,(hof),amF,?_⟩;refine amTG ?_)
        ((try refine Or.inl ?_);refine ⟨_,(hA),amF,?_⟩;refine amTG ?_)
        ((try refine Or.inl ?_);refine ⟨_,(hch),amF,?_⟩;refine amTG ?_)
        refine amGo ?_
        refine awp_cond amQ (fun hy => ?_) (fun hy => ?_)
        · refine amGo ?_
          (simp only [xec,simprocAttr];refine ⟨[_,_],⟨⟨amK,rfl⟩,rfl,trivial⟩,rfl,Imp.eq ?_⟩)
          rfl
        · cases hy
      | some p =>
        obtain ⟨c,d⟩:=p
        obtain ⟨k1,k2⟩:=hst2 c d rfl
        have hch:Does Try.prog 51 [gA g b0,.sl (.ints qs)] (.imm (.tup [frT (c,d),.one (.b (.val (.bool true)))])):=hch
        (refine amB ?_;refine awp_anyG 1 [(9,[3]),(10,[3])] [3] [(9,[]),(10,[])] ?_;refine amNG ?_)
        ((try refine Or.inl ?_);refine ⟨_,(hof),amF,?_⟩;refine amTG ?_)
        ((try refine Or.inl ?_);refine ⟨_,(hA),amF,?_⟩;refine amTG ?_)
        ((try refine Or.inl ?_);refine ⟨_,(hch),amF,?_⟩;refine amTG ?_)
        refine amGo ?_
        refine awp_cond amQ (fun hy => ?_) (fun hy => ?_)
        · cases hy
        · refine amGo ?_
          refine ⟨(c,d),k1,k2,.inr ⟨3,Nat.le_of_ble_eq_true rfl,leT_of ?_ rfl rfl rfl⟩⟩
          ((try simp only [xk]);(repeat (refine leK_cons ?_ ?_;first | (exact amE) | rotate_left));(refine leK_nil ?_;exact (by rfl));(all_goals (try (simp only [xr,simprocAttr];try refine int_eq1 ?_))))
    · cases hz
/-! ### of problems -/
open Classical in
/-- the ratio, if there is one -/
noncomputable def grW (m s:List (List Int)) (x:Int):Option (Int×Int):=if h:(gmQ m s x).2=false∧∃ o,ResG s (gmQ m s x).1 o then Classical.choose h.2 else none
theorem grW_ok {m s:List (List Int)} {x:Int} (h:(gmQ m s x).2=false):ResG s (gmQ m s x).1 (grW m s x):=by
  have hex:=resG_ex (gmQ_full h)
  unfold grW
  rw [dif_pos ⟨h,hex⟩]
  exact Classical.choose_spec hex
theorem grW_bad {m s:List (List Int)} {x:Int} (h:(gmQ m s x).2=true):grW m s x=none:=by
  unfold grW
  rw [dif_neg (fun e=>by rw [h] at e;cases e.1)]
noncomputable def grP (m s:List (List Int)) (x:Int):(Int×Int)×Bool:=(grV (grW m s x),(grW m s x).isSome)
theorem impl_GameRatio_d (m s:List (List Int)) (x:Int):Does Try.prog 16 [prA m s,.int x] (.imm (.tup [frT (grP m s x).1,blT (grP m s x).2])):=by
  refine spec_imm Try.func16 rfl Try.ntmps16 cfOK (fun _ _=>by kernel_rfl) rfl (Nat.le_of_ble_eq_true rfl) ?_
  intro M0 w0
  rw [Try.results16]
  refine amGo ?_
  cases hg:(gmQ m s x).2
  · have hr:=ratio_d (gmQ_full hg) (grW_ok hg)
    (refine .inr (.inl (callW_a [] (gameOf_g hg) rfl rfl rfl rfl trivial rfl rfl rfl rfl ?_));refine amC ?_)
    refine amGo ?_
    refine awp_cond amQ (fun hz => ?_) (fun hz => ?_)
    · cases hz
    refine amGo ?_
    ((try refine Or.inl ?_);refine ⟨_,(hr),.inl rfl,?_⟩;refine amC ?_)
    refine amGo ?_
    (simp only [xec,simprocAttr];refine ⟨[_,_],⟨⟨amK,rfl⟩,rfl,trivial⟩,rfl,Imp.eq ?_⟩)
    rfl
  · (refine .inr (.inl (callW_b (gameOf_b hg) rfl rfl rfl rfl rfl rfl rfl ?_));refine amC ?_)
    refine amGo ?_
    refine awp_cond amQ (fun hc => ?_) (fun hc => ?_)
    · refine amGo ?_
      (simp only [xec,simprocAttr];refine ⟨[_,_],⟨⟨amK,rfl⟩,rfl,trivial⟩,rfl,Imp.eq ?_⟩)
      unfold grP
      rw [grW_bad hg]
      rfl
    · cases hc
theorem spec_GameRatio_d (m s:List (List Int)) (x:Int):Does Try.prog 15 [prA m s,.int x] (.imm (.tup [frT (grP m s x).1,blT (grP m s x).2])):=by
  refine spec_imm Try.func15 rfl Try.ntmps15 cfOK (fun _ _=>by kernel_rfl) rfl (Nat.le_of_ble_eq_true rfl) ?_
  intro M0 w0
  rw [Try.results15]
  refine amGo ?_
  cases hq:(gmQ m s x).2
  · have ht:=gmQ_takes hq
    obtain ⟨t,hx⟩:=gm_x hq
    have hr:=l10Exact_d hx false (grW_ok hq)
    ((try refine Or.inl ?_);refine ⟨_,(l10Get_g ht),amF,?_⟩;refine amC ?_)
    rw [hq]
    refine amGo ?_
    refine awp_cond amQ (fun hz => ?_) (fun hz => ?_)
    · cases hz
    refine amGo ?_
    ((try refine Or.inl ?_);refine ⟨_,(hr),.inl rfl,?_⟩;refine amC ?_)
    refine amGo ?_
    (simp only [xec,simprocAttr];refine ⟨[_,_],⟨⟨amK,rfl⟩,rfl,trivial⟩,rfl,Imp.eq ?_⟩)
    rfl
  · have hb:grP m s x=((0,0),false):=by unfold grP;rw [grW_bad hq];rfl
    rw [hb]
    cases ht:takesB m s x []
    · ((try refine Or.inl ?_);refine ⟨_,(l10Get_b ht),amF,?_⟩;refine amC ?_)
      refine amGo ?_
      refine awp_cond amQ (fun hc => ?_) (fun hc => ?_)
      · refine amGo ?_
        (simp only [xec,simprocAttr];refine ⟨[_,_],⟨⟨amK,rfl⟩,rfl,trivial⟩,rfl,Imp.eq ?_⟩)
        rfl
      · cases hc
    · ((try refine Or.inl ?_);refine ⟨_,(l10Get_g ht),amF,?_⟩;refine amC ?_)
      rw [hq]
      refine amGo ?_
      refine awp_cond amQ (fun hc => ?_) (fun hc => ?_)
      · refine amGo ?_
        (simp only [xec,simprocAttr];refine ⟨[_,_],⟨⟨amK,rfl⟩,rfl,trivial⟩,rfl,Imp.eq ?_⟩)
        rfl
      · cases hc
end Go.Proofs.Ytkcelmnbfbehbaa
