/- FindCycle of the program, on the machine. Conditions: none. -/
import Derived.Test.YtlhdeofkhajigaaGreatGED
import Derived.Test.YtlhdeofkhajigaaGreatGSQ
import Derived.Test.YtlhdeofkhajigaaGreatCBF
import Derived.Test.YtlhdeofkhajigaaGreatGraph
set_option linter.all false
set_option linter.unusedSimpArgs false
set_option linter.unusedVariables false
namespace Go.Proofs.YtlhdeofkhajigaaGreat
open Go Go.RowKit Am

theorem fs_step {β:Type} {f:Nat→Option β} {k:Nat} (h:(List.range k).findSome? f=none) (h2:f k=none):(List.range (k+1)).findSome? f=none:=by
  rw [List.range_succ,List.findSome?_append,h]
  simp [h2]
theorem fs_hit {β:Type} {f:Nat→Option β} {k n:Nat} {b:β} (hk:k<n) (h:(List.range k).findSome? f=none) (h2:f k=some b):(List.range n).findSome? f=some b:=by
  obtain ⟨j,rfl⟩:=Nat.exists_eq_add_of_lt hk
  rw [show k+j+1=k+(j+1) by omega,List.range_add,List.findSome?_append,h,Option.none_or,List.range_succ_eq_map,List.map_cons,List.findSome?_cons,Nat.add_zero,h2]
def findN (a:Int×Int) (E:List (List Int)) (K N n:Nat):Option (Nat×List Int):=(List.range N).findSome? fun p=>(firstS K n (goodE a E K p)).map fun w=>(p,w)
def findC (a:Int×Int) (E:List (List Int)) (K N:Nat):Option (Nat×List Int):=(List.range 6).findSome? fun i=>findN a E K N (i+1)
def cyR:Option (Nat×List Int)→AV
  | none => .tup [.one (.b (.val (.int .i64 0))),.one (.b (.val (.slice none 0 0))),.one (.b (.val (.bool false)))]
  | some (p,_) => .tup [.one (.b (.val (.int .i64 p))),.one (.own 0),.one (.b (.val (.bool true)))]
def cyO:Option (Nat×List Int)→List Ob
  | none=>[]
  | some (_,w)=>[.row 3 (.ints w)]
def cyc (m s nx:List (List Int)) (x:Int) (a:Int×Int):Option (Nat×List Int):=bif (prQ m s nx x).2 || !ratioB a then none else findC a (egs (prQ m s nx x).1.rows) s.length (prQ m s nx x).1.list.length
set_option maxHeartbeats 4000000 in
theorem FindCycle_h (m s nx:List (List Int)) (x:Int) (a:Int×Int):DoesH Tryz.prog 32 [prA m s,.sl (.ii nx),.int x,frA a] [] [] (cyR (cyc m s nx x a)) (cyO (cyc m s nx x a)):=by
  have hP:=pairsOf_h m s nx x
  refine spec_hB Tryz.func32 rfl Tryz.ntmps32 cfOK (fun _ _=>by kernel_rfl) rfl rfl rfl ?_
  intro M0 w0 S φ0
  rw [Tryz.results32]
  refine amGo ?_
  cases hq:(prQ m s nx x).2
  · have hF:=prQ_full hq
    rw [show prR (prQ m s nx x) = .tup [.one (.ptr 0 0),.one (.b (.val (.bool true)))] by unfold prR;rw [hq];rfl,show prO s.length (prQ m s nx x)=[.box [.own 1,.own 2,.b (.val (.int .i64 s.length))],.row 36 (.k 2 (prQ m s nx x).1.list),.row 93 (.k 4 (egs (prQ m s nx x).1.rows))] by unfold prO;rw [hq];rfl] at hP
    have hcy:cyc m s nx x a=bif !ratioB a then none else findC a (egs (prQ m s nx x).1.rows) s.length (prQ m s nx x).1.list.length:=by unfold cyc;rw [hq];rfl
    rw [hcy]
    generalize (prQ m s nx x).1=g at hP hF
    (refine .inr (.inl (callW_a [] (hP) rfl rfl rfl rfl trivial rfl rfl rfl rfl ?_));refine amC ?_)
    refine amGo ?_
    ((try refine Or.inl ?_);refine ⟨_,(isRatio_d a),.inl rfl,?_⟩;refine amC ?_)
    refine amGo ?_
    cases hra:ratioB a
    · refine awp_cond amQ (fun hr => ?_) (fun hr => ?_)
      · refine amGo ?_
        (simp only [ends_normal,ends_ret];refine retH_2 (vs:=[_,_,_]) [] rfl trivial rfl rfl rfl rfl ⟨rfl,rfl,rfl,trivial⟩ ?_;try rfl)
      · simp at hr
    refine awp_cond amQ (fun hr => ?_) (fun hr => ?_)
    · simp at hr
    refine amGo ?_
    have hE:=ed_ok hF
    have hG:=gn_ok hF hra
    have hle:=hF.le
    generalize egs g.rows=E at hE hG
    (refine awp_frz 3 rfl ?_;simp only [xz,simprocAttr])
    (refine awp_frz 4 rfl ?_;simp only [xz,simprocAttr])
    (refine awp_frzB 2 rfl rfl ?_;simp only [xzb,simprocAttr])
    (refine awp_frzB 1 rfl rfl ?_;simp only [xzb,simprocAttr])
    refine awp_rounds (α:=Nat) (fun i=>[(13,true,.int ((i+1:Nat):Int))]) [7,8,9,10,11] (fun _=>[.box [.b (.sl (.ii m)),.b (.sl (.ii s))],.gone,.gone,.gone,.gone,bxX g.list E s.length]) (fun i=>i≤6∧(List.range i).findSome? (fun i=>findN a E s.length g.list.length (i+1))=none) (fun i=>6-i) 0 (by ((try simp only [xk]);(repeat (refine leK_cons ?_ ?_;first | (exact amE) | rotate_left));(refine leK_nil ?_;exact (by rfl));(all_goals (try (simp only [xr,simprocAttr];try refine int_eq1 ?_))))) ⟨by omega,rfl⟩ fun i hi => ?_
    obtain ⟨hi,hno⟩:=hi
    simp only [xr,simprocAttr]
    refine amGo ?_
    refine awp_cond amQ (fun hc => ?_) (fun hc => ?_)
    · have hc:=of_decide_eq_true hc
      refine amGo ?_
      refine awp_rounds (α:=Nat) (fun p=>[(39,true,.int p)]) [7,8,9,10,11,13,38] (fun _=>[.box [.b (.sl (.ii m)),.b (.sl (.ii s))],.gone,.gone,.gone,.gone,bxX g.list E s.length]) (fun p=>p≤g.list.length∧(List.range p).findSome? (fun p=>(firstS s.length (i+1) (goodE a E s.length p)).map fun w=>(p,w))=none) (fun p=>g.list.length-p) 0 (by ((try simp only [xk]);(repeat (refine leK_cons ?_ ?_;first | (exact amE) | rotate_left));(refine leK_nil ?_;exact (by rfl));(all_goals (try (simp only [xr,simprocAttr];try refine int_eq1 ?_))))) ⟨by omega,rfl⟩ fun p hp => ?_
      obtain ⟨hp,hnp⟩:=hp
      simp only [xr,simprocAttr]
      refine amGo ?_
      refine awp_cond amQ (fun hd => ?_) (fun hd => ?_)
      · have hd:=of_decide_eq_true hd
        have hpl:p<g.list.length:=by omega
        have hS:=sequencesF_h (L:=g.list) hE hG hpl (n:=i+1) (by omega)
        refine amG1 ?_
        (refine awp_frzB 6 rfl rfl ?_;simp only [xzb,simprocAttr])
        refine amGo ?_
        cases hfs:firstS s.length (i+1) (goodE a E s.length p) with
        | none =>
          rw [hfs] at hS
          (refine .inr (.inl (callW_a [7,5] (hS) rfl rfl rfl rfl ⟨rfl,rfl,trivial⟩ rfl rfl rfl rfl ?_));refine amC ?_)
          refine amGo ?_
          refine awp_cond amQ (fun hz => ?_) (fun hz => ?_)
          · simp at hz
          refine amGo ?_
          refine ⟨p+1,by omega,fs_step hnp (by rw [hfs];rfl),by omega,.inr ⟨6,Nat.le_of_ble_eq_true rfl,leT_of ?_ rfl rfl rfl⟩⟩
          ((try simp only [xk]);(repeat (refine leK_cons ?_ ?_;first | (exact amE) | rotate_left));(refine leK_nil ?_;exact (by rfl));(all_goals (try (simp only [xr,simprocAttr];try refine int_eq1 ?_))))
        | some w =>
          have hwl:w.length=i+1:=preS_len (k:=s.length ^ (i+1)) hfs
          rw [hfs] at hS
          (refine .inr (.inl (callW_a [7,5] (hS) rfl rfl rfl rfl ⟨rfl,rfl,trivial⟩ rfl rfl rfl rfl ?_));refine amC ?_)
          refine amGo ?_
          refine awp_cond amQ (fun hz => ?_) (fun hz => ?_)
          · have hfin:findC a E s.length g.list.length=some (p,w):=fs_hit (k:=i) (by omega) hno (fs_hit hpl hnp (by rw [hfs];rfl))
            rw [hfin]
            refine amGo ?_
            (simp only [ends_normal,ends_ret];refine retH_2 (vs:=[_,_,_]) [8] rfl ⟨rfl,trivial⟩ rfl rfl rfl rfl ⟨rfl,rfl,rfl,trivial⟩ ?_;try rfl)
          · simp at hz
      · have hd:=of_decide_eq_false hd
        obtain rfl:p=g.list.length:=by omega
        refine amGo ?_
        refine ⟨i+1,by omega,fs_step hno hnp,by omega,.inr ⟨6,Nat.le_of_ble_eq_true rfl,leT_of ?_ rfl rfl rfl⟩⟩
        ((try simp only [xk]);(repeat (refine leK_cons ?_ ?_;first | (exact amE) | rotate_left));(refine leK_nil ?_;exact (by rfl));(all_goals (try (simp only [xr,simprocAttr];try refine int_eq1 ?_))))
    · have hc:=of_decide_eq_false hc
      obtain rfl:i=6:=by omega
      rw [show findC a E s.length g.list.length=none from hno]
      refine amGo ?_
      (simp only [ends_normal,ends_ret];refine retH_2 (vs:=[_,_,_]) [] rfl trivial rfl rfl rfl rfl ⟨rfl,rfl,rfl,trivial⟩ ?_;try rfl)
  · rw [show prR (prQ m s nx x) = .tup [.one (.b (.val (.pointer none))),.one (.b (.val (.bool false)))] by unfold prR;rw [hq];rfl,show prO s.length (prQ m s nx x)=[] by unfold prO;rw [hq];rfl] at hP
    have hcy:cyc m s nx x a=none:=by unfold cyc;rw [hq];rfl
    rw [hcy]
    (refine .inr (.inl (callW_a [] (hP) rfl rfl rfl rfl trivial rfl rfl rfl rfl ?_));refine amC ?_)
    refine amGo ?_
    refine .inl ⟨AV.bool false,.inl rfl,?_⟩
    simp only [xr,simprocAttr]
    refine amGo ?_
    refine awp_cond amQ (fun hr => ?_) (fun hr => ?_)
    · refine amGo ?_
      (simp only [ends_normal,ends_ret];refine retH_2 (vs:=[_,_,_]) [] rfl trivial rfl rfl rfl rfl ⟨rfl,rfl,rfl,trivial⟩ ?_;try rfl)
    · simp at hr
end Go.Proofs.YtlhdeofkhajigaaGreat
/- FindCycle of the reference, on the machine. Conditions: none. -/
set_option linter.all false
set_option linter.unusedSimpArgs false
set_option linter.unusedVariables false
namespace Go.Proofs.YtlhdeofkhajigaaGreat
open Go Go.RowKit Am

def fiR (o:Option (List Int)):AV := .tup [.one (.b (.sl (.ints (o.getD [])))),.one (.b (.val (.bool o.isSome)))]
/-- a walk from at to another pair with a gain of more than what is still needed -/
def restE (a:Int×Int) (E:List (List Int)) (K p to:Nat) (gain:Int) (rs:List Int):Bool:=decide ((afterE E K p rs:Int)=(to:Int)) && decide (0<gain+gainE a E K p rs)
theorem restE_cons (a:Int×Int) (E:List (List Int)) (K p to:Nat) (gain:Int) (r:Nat) (rs:List Int):restE a E K p to gain ((r:Int)::rs)=restE a E K (toE E K p r) to (gain+gainC a.1 a.2 (E.getD (p*K+r) [])) rs:=by
  unfold restE
  rw [gainE,Int.toNat_natCast,Int.add_assoc]
  rfl
theorem restE_0 (a:Int×Int) (E:List (List Int)) (K p:Nat):restE a E K p p 0=goodE a E K p:=by
  funext rs
  unfold restE goodE
  rw [Int.zero_add]
set_option maxHeartbeats 4000000 in
theorem l9Find_d {m s:List (List Int)} {g:PrT} (hF:PrFull m s g) {a:Int×Int} (ha:ratioB a=true) {to:Nat} (hto:to<g.list.length):∀ (n:Nat),n≤6→∀ (p:Nat) (gain:Int),p<g.list.length → -100000000000000*(10-(n:Int))≤gain→gain≤100000000000000*(10-(n:Int)) →
    Does Tryz.prog 77 [grA g,frA a,.int p,.int to,.int n,.int gain] (.imm (fiR (firstS s.length n (restE a (egs g.rows) s.length p to gain)))):=by
  intro n
  have hE:=ed_ok hF
  have hG:=gn_ok hF ha
  have hrl:=hF.rlen
  have hle:=hF.le
  have hl:=prob_len hF.prob
  induction n with
  | zero =>
    intro hn p gain hp h1 h2
    have hv:fiR (firstS s.length 0 (restE a (egs g.rows) s.length p to gain)) = .tup [.one (.b (.sl (.ints []))),.one (.b (.val (.bool (bif decide ((p:Int)=(to:Int)) then decide (0<gain) else false))))]:=by
      rw [firstS_zero]
      have e:restE a (egs g.rows) s.length p to gain []=(decide ((p:Int)=(to:Int)) && decide (0<gain)):=by unfold restE;rw [gainE,Int.add_zero];rfl
      rw [e]
      cases decide ((p:Int)=(to:Int))<;>cases decide (0<gain)<;>rfl
    rw [hv]
    refine spec_imm Tryz.func77 rfl Tryz.ntmps77 cfOK (fun _ _=>by kernel_rfl) rfl (Nat.le_of_ble_eq_true rfl) ?_
    intro M0 w0
    rw [Tryz.results77]
    refine amGo ?_
    refine awp_cond amQ (fun hc => ?_) (fun hc => ?_)
    · refine amGoR ?_
      (refine awp_frz 2 rfl ?_;simp only [xz,simprocAttr])
      refine amGo ?_
      (simp only [xec,simprocAttr];refine ⟨[_,_],⟨rfl,rfl,trivial⟩,rfl,Imp.eq ?_⟩)
      rfl
    · simp at hc
  | succ n ih =>
    intro hn p gain hp h1 h2
    have hp':p<(eg3 g.rows).length:=by simp [eg3];omega
    have hrow:=hF.row p (by omega)
    rw [firstS_cons hE.k.1]
    generalize hv:(fun (r:Nat)=>(firstS s.length n fun rs=>restE a (egs g.rows) s.length p to gain ((r:Int)::rs)).map fun rs=>(r:Int)::rs)=f
    refine spec_imm Tryz.func77 rfl Tryz.ntmps77 cfOK (fun _ _=>by kernel_rfl) rfl (Nat.le_of_ble_eq_true rfl) ?_
    intro M0 w0
    rw [Tryz.results77]
    refine amGo ?_
    refine awp_cond amQ (fun hc => ?_) (fun hc => ?_)
    · exfalso
      simp at hc
      omega
    refine amGo ?_
    have hfr:∀ r:Nat,f r=(firstS s.length n (restE a (egs g.rows) s.length (toE (egs g.rows) s.length p r) to (gain+gainC a.1 a.2 ((egs g.rows).getD (p*s.length+r) [])))).map fun rs=>(r:Int)::rs:=fun r=>by
      rw [← hv]
      simp only [restE_cons]
    have hlen:((eg3 g.rows).getD p []).length=s.length:=by
      have e:(eg3 g.rows).getD p []=(g.rows.getD p []).map c3:=by
        unfold eg3
        rw [List.getD_eq_getElem?_getD,List.getD_eq_getElem?_getD,List.getElem?_map]
        cases g.rows[p]? <;> rfl
      rw [e,List.length_map,hrow]
    refine awp_rounds (α:=Nat) (fun r=>[(14,true,.int r)]) [2,3,4,5,6,7] (fun _=>[.box [.b (.sl (.k 2 g.list)),.b (.sl (.ki 3 (eg3 g.rows))),.b (.val (.bool false))],.box [.b (.val (.int .i64 a.1)),.b (.val (.int .i64 a.2))]]) (fun r=>r≤s.length∧(List.range r).findSome? f=none) (fun r=>s.length-r) 0 (by ((try simp only [xk]);(repeat (refine leK_cons ?_ ?_;first | (exact amE) | rotate_left));(refine leK_nil ?_;exact (by rfl));(all_goals (try (simp only [xr,simprocAttr];try refine int_eq1 ?_))))) ⟨Nat.zero_le _,rfl⟩ fun r hr => ?_
    obtain ⟨hr,hno⟩:=hr
    simp only [xr,simprocAttr]
    refine amGo ?_
    refine awp_cond amQ (fun hd => ?_) (fun hd => ?_)
    · have hd:=of_decide_eq_true hd
      have hr':r<s.length:=by omega
      have hat:=(hE.at hp hr').1
      have hge:=hG _ (show (egs g.rows).getD (p*s.length+r) []∈egs g.rows by rw [getD_in hat];exact List.getElem_mem hat)
      have hto2:=toE_at hE hp hr'
      have he3:((eg3 g.rows).getD p []).getD r []=c3 ((egs g.rows).getD (p*s.length+r) []):=by
        rw [egs_at hF.row p r (by omega) hr']
        have e:(eg3 g.rows).getD p []=(g.rows.getD p []).map c3:=by
          unfold eg3
          rw [List.getD_eq_getElem?_getD,List.getD_eq_getElem?_getD,List.getElem?_map]
          cases g.rows[p]? <;> rfl
        rw [e]
        generalize g.rows.getD p []=row at hrow
        rw [List.getD_eq_getElem?_getD,List.getD_eq_getElem?_getD,List.getElem?_map,List.getElem?_eq_getElem (show r<row.length by omega)]
        rfl
      have hgc:gainC a.1 a.2 ((egs g.rows).getD (p*s.length+r) [])=a.2*((egs g.rows).getD (p*s.length+r) []).getD 2 0-a.1*((egs g.rows).getD (p*s.length+r) []).getD 3 0:=rfl
      have hc0:(c3 ((egs g.rows).getD (p*s.length+r) [])).getD 0 0=(toE (egs g.rows) s.length p r:Int):=hto2.1
      have hI:=ih (by omega) (toE (egs g.rows) s.length p r) (gain+gainC a.1 a.2 ((egs g.rows).getD (p*s.length+r) [])) hto2.2 (by omega) (by omega)
      refine amGo ?_
      rw [he3]
      ((try refine Or.inl ?_);refine ⟨_,(l9Gain_d ((egs g.rows).getD (p*s.length+r) []) a hge.1 (by omega) hge.2.2.1 (by omega)),.inl rfl,?_⟩;refine amC ?_)
      refine amGo ?_
      rw [hc0,show ((n+1:Nat):Int)-1=(n:Int) by omega]
      cases hfs:firstS s.length n (restE a (egs g.rows) s.length (toE (egs g.rows) s.length p r) to (gain+gainC a.1 a.2 ((egs g.rows).getD (p*s.length+r) []))) with
      | none =>
        rw [hfs] at hI
        have hI:Does _ _ _ (.imm (.tup [.one (.b (.sl (.ints []))),.one (.b (.val (.bool false)))])):=hI
        ((try refine Or.inl ?_);refine ⟨_,(hI),amF,?_⟩;refine amC ?_)
        refine amGo ?_
        refine awp_cond amQ (fun hz => ?_) (fun hz => ?_)
        · cases hz
        refine amGo ?_
        refine ⟨r+1,by omega,fs_step hno (by rw [hfr,hfs];rfl),by omega,.inr ⟨2,Nat.le_of_ble_eq_true rfl,leT_of ?_ rfl rfl rfl⟩⟩
        ((try simp only [xk]);(repeat (refine leK_cons ?_ ?_;first | (exact amE) | rotate_left));(refine leK_nil ?_;exact (by rfl));(all_goals (try (simp only [xr,simprocAttr];try refine int_eq1 ?_))))
      | some w =>
        have hfin:(List.range s.length).findSome? f=some ((r:Int)::w):=fs_hit hr' hno (by rw [hfr,hfs];rfl)
        have hwl:w.length=n:=preS_len (k:=s.length ^ n) hfs
        rw [hfs] at hI
        rw [hfin]
        have hI:Does _ _ _ (.imm (.tup [.one (.b (.sl (.ints w))),.one (.b (.val (.bool true)))])):=hI
        ((try refine Or.inl ?_);refine ⟨_,(hI),amF,?_⟩;refine amC ?_)
        refine amGo ?_
        refine awp_cond amQ (fun hz => ?_) (fun hz => ?_)
        · (refine amB ?_;refine awp_regO [false,true] ?_;refine amN ?_)
          (refine awp_frz 3 rfl ?_;simp only [xz,simprocAttr])
          refine amGo ?_
          (simp only [xec,simprocAttr];refine ⟨[_,_],⟨rfl,rfl,trivial⟩,rfl,Imp.eq ?_⟩)
          rfl
        · cases hz
    · have hd:=of_decide_eq_false hd
      obtain rfl:r=s.length:=by omega
      rw [hno]
      refine amGoR ?_
      (refine awp_frz 2 rfl ?_;simp only [xz,simprocAttr])
      refine amGo ?_
      (simp only [xec,simprocAttr];refine ⟨[_,_],⟨rfl,rfl,trivial⟩,rfl,Imp.eq ?_⟩)
      rfl
end Go.Proofs.YtlhdeofkhajigaaGreat
/- FindCycle of the reference, on the machine, and both as the law wants them. Conditions: none. -/
set_option linter.all false
set_option linter.unusedSimpArgs false
set_option linter.unusedVariables false
namespace Go.Proofs.YtlhdeofkhajigaaGreat
open Go Go.RowKit Am

theorem findSome_mem {β:Type} {f:Nat→Option β} {n:Nat} {b:β} (h:(List.range n).findSome? f=some b):∃ k,k<n∧f k=some b:=by
  obtain ⟨k,h1,h2⟩:=List.exists_of_findSome?_eq_some h
  exact ⟨k,by simpa using h1,h2⟩
def cyS:Option (Nat×List Int)→AV
  | none => .tup [.one (.b (.val (.int .i64 0))),.one (.b (.sl (.ints []))),.one (.b (.val (.bool false)))]
  | some (p,w) => .tup [.one (.b (.val (.int .i64 p))),.one (.b (.sl (.ints w))),.one (.b (.val (.bool true)))]
set_option maxHeartbeats 4000000 in
theorem spec_FindCycle_v (m s nx:List (List Int)) (x:Int) (a:Int×Int):Does Tryz.prog 33 [prA m s,.sl (.ii nx),.int x,frA a] (.imm (cyS (cyc m s nx x a))):=by
  have hG:=l9Get_d m s nx x
  cases hk:(takesB m s x [] && algB m s nx)
  · rw [hk,prQ_bad hk] at hG
    have hG:Does Tryz.prog 49 [prA m s,.sl (.ii nx),.int x] (.imm (.tup [.agg [.b (.val (.slice none 0 0)),.b (.val (.slice none 0 0)),.b (.val (.bool false))],.one (.b (.val (.bool false)))])):=hG
    have hcy:cyc m s nx x a=none:=by unfold cyc;rw [prQ_bad hk];rfl
    rw [hcy]
    refine spec_imm Tryz.func33 rfl Tryz.ntmps33 cfOK (fun _ _=>by kernel_rfl) rfl (Nat.le_of_ble_eq_true rfl) ?_
    intro M0 w0
    rw [Tryz.results33]
    refine amGo ?_
    ((try refine Or.inl ?_);refine ⟨_,(hG),amF,?_⟩;refine amC ?_)
    refine amGo ?_
    refine .inl ⟨AV.bool false,.inl rfl,?_⟩
    simp only [xr,simprocAttr]
    refine amGo ?_
    refine awp_cond amQ (fun hr => ?_) (fun hr => ?_)
    · refine amGoR ?_
      (refine awp_frz 3 rfl ?_;simp only [xz,simprocAttr])
      refine amGo ?_
      (simp only [xec,simprocAttr];refine ⟨[_,_,_],⟨rfl,rfl,rfl,trivial⟩,rfl,Imp.eq ?_⟩)
      rfl
    · simp at hr
  · rw [hk] at hG
    cases hq:(prQ m s nx x).2
    · have hF:=prQ_full hq
      have hG:Does Tryz.prog 49 [prA m s,.sl (.ii nx),.int x] (.imm (.tup [.agg [.b (.sl (.k 2 (prQ m s nx x).1.list)),.b (.sl (.ki 3 (eg3 (prQ m s nx x).1.rows))),.b (.val (.bool false))],.one (.b (.val (.bool true)))])):=by
        have hG2:=hG
        unfold prAv at hG2
        rw [hq] at hG2
        exact hG2
      have hcy:cyc m s nx x a=bif !ratioB a then none else findC a (egs (prQ m s nx x).1.rows) s.length (prQ m s nx x).1.list.length:=by unfold cyc;rw [hq];rfl
      rw [hcy]
      generalize (prQ m s nx x).1=g at hG hF
      have hle:=hF.le
      refine spec_imm Tryz.func33 rfl Tryz.ntmps33 cfOK (fun _ _=>by kernel_rfl) rfl (Nat.le_of_ble_eq_true rfl) ?_
      intro M0 w0
      rw [Tryz.results33]
      refine amGo ?_
      ((try refine Or.inl ?_);refine ⟨_,(hG),amF,?_⟩;refine amC ?_)
      refine amGo ?_
      ((try refine Or.inl ?_);refine ⟨_,(l9Ratio_d a),.inl rfl,?_⟩;refine amC ?_)
      refine amGo ?_
      cases hra:ratioB a
      · refine awp_cond amQ (fun hr => ?_) (fun hr => ?_)
        · refine amGoR ?_
          (refine awp_frz 3 rfl ?_;simp only [xz,simprocAttr])
          refine amGo ?_
          (simp only [xec,simprocAttr];refine ⟨[_,_,_],⟨rfl,rfl,rfl,trivial⟩,rfl,Imp.eq ?_⟩)
          rfl
        · simp at hr
      refine awp_cond amQ (fun hr => ?_) (fun hr => ?_)
      · simp at hr
      refine amGo ?_
      refine awp_rounds (α:=Nat) (fun i=>[(13,true,.int ((i+1:Nat):Int))]) [7,8,10,11] (fun _=>[.box [.b (.sl (.ii m)),.b (.sl (.ii s))],.box [.b (.val (.int .i64 a.1)),.b (.val (.int .i64 a.2))],.box [.b (.sl (.k 2 g.list)),.b (.sl (.ki 3 (eg3 g.rows))),.b (.val (.bool false))]]) (fun i=>i≤6∧(List.range i).findSome? (fun i=>findN a (egs g.rows) s.length g.list.length (i+1))=none) (fun i=>6-i) 0 (by ((try simp only [xk]);(repeat (refine leK_cons ?_ ?_;first | (exact amE) | rotate_left));(refine leK_nil ?_;exact (by rfl));(all_goals (try (simp only [xr,simprocAttr];try refine int_eq1 ?_))))) ⟨by omega,rfl⟩ fun i hi => ?_
      obtain ⟨hi,hno⟩:=hi
      simp only [xr,simprocAttr]
      refine amGo ?_
      refine awp_cond amQ (fun hc => ?_) (fun hc => ?_)
      · have hc:=of_decide_eq_true hc
        refine amGo ?_
        refine awp_rounds (α:=Nat) (fun p=>[(14,true,.int p)]) [7,8,10,11,13] (fun _=>[.box [.b (.sl (.ii m)),.b (.sl (.ii s))],.box [.b (.val (.int .i64 a.1)),.b (.val (.int .i64 a.2))],.box [.b (.sl (.k 2 g.list)),.b (.sl (.ki 3 (eg3 g.rows))),.b (.val (.bool false))]]) (fun p=>p≤g.list.length∧(List.range p).findSome? (fun p=>(firstS s.length (i+1) (goodE a (egs g.rows) s.length p)).map fun w=>(p,w))=none) (fun p=>g.list.length-p) 0 (by ((try simp only [xk]);(repeat (refine leK_cons ?_ ?_;first | (exact amE) | rotate_left));(refine leK_nil ?_;exact (by rfl));(all_goals (try (simp only [xr,simprocAttr];try refine int_eq1 ?_))))) ⟨by omega,rfl⟩ fun p hp => ?_
        obtain ⟨hp,hnp⟩:=hp
        simp only [xr,simprocAttr]
        refine amGo ?_
        refine awp_cond amQ (fun hd => ?_) (fun hd => ?_)
        · have hd:=of_decide_eq_true hd
          have hpl:p<g.list.length:=by omega
          have hL:=l9Find_d hF hra hpl (i+1) (by omega) p 0 hpl (by omega) (by omega)
          rw [restE_0] at hL
          refine amGo ?_
          cases hfs:firstS s.length (i+1) (goodE a (egs g.rows) s.length p) with
          | none =>
            rw [hfs] at hL
            have hL:Does _ _ _ (.imm (.tup [.one (.b (.sl (.ints []))),.one (.b (.val (.bool false)))])):=hL
            ((try refine Or.inl ?_);refine ⟨_,(hL),amF,?_⟩;refine amC ?_)
            refine amGo ?_
            refine awp_cond amQ (fun hz => ?_) (fun hz => ?_)
            · cases hz
            refine amGo ?_
            refine ⟨p+1,by omega,fs_step hnp (by rw [hfs];rfl),by omega,.inl ?_⟩
            ((try simp only [xk]);(repeat (refine leK_cons ?_ ?_;first | (exact amE) | rotate_left));(refine leK_nil ?_;exact (by rfl));(all_goals (try (simp only [xr,simprocAttr];try refine int_eq1 ?_))))
          | some w =>
            have hfin:findC a (egs g.rows) s.length g.list.length=some (p,w):=fs_hit (k:=i) (by omega) hno (fs_hit hpl hnp (by rw [hfs];rfl))
            rw [hfs] at hL
            rw [hfin]
            have hL:Does _ _ _ (.imm (.tup [.one (.b (.sl (.ints w))),.one (.b (.val (.bool true)))])):=hL
            ((try refine Or.inl ?_);refine ⟨_,(hL),amF,?_⟩;refine amC ?_)
            refine amGo ?_
            refine awp_cond amQ (fun hz => ?_) (fun hz => ?_)
            · refine amGo ?_
              (simp only [xec,simprocAttr];refine ⟨[_,_,_],⟨rfl,rfl,rfl,trivial⟩,rfl,Imp.eq ?_⟩)
              rfl
            · cases hz
        · have hd:=of_decide_eq_false hd
          obtain rfl:p=g.list.length:=by omega
          refine amGo ?_
          refine ⟨i+1,by omega,fs_step hno hnp,by omega,.inl ?_⟩
          ((try simp only [xk]);(repeat (refine leK_cons ?_ ?_;first | (exact amE) | rotate_left));(refine leK_nil ?_;exact (by rfl));(all_goals (try (simp only [xr,simprocAttr];try refine int_eq1 ?_))))
      · have hc:=of_decide_eq_false hc
        obtain rfl:i=6:=by omega
        rw [show findC a (egs g.rows) s.length g.list.length=none from hno]
        refine amGoR ?_
        (refine awp_frz 3 rfl ?_;simp only [xz,simprocAttr])
        refine amGo ?_
        (simp only [xec,simprocAttr];refine ⟨[_,_,_],⟨rfl,rfl,rfl,trivial⟩,rfl,Imp.eq ?_⟩)
        rfl
    · have hG:Does Tryz.prog 49 [prA m s,.sl (.ii nx),.int x] (.imm (.tup [.agg [.b (.sl (.k 2 (prQ m s nx x).1.list)),.b (.sl (.ki 3 (eg3 (prQ m s nx x).1.rows))),.b (.val (.bool true))],.one (.b (.val (.bool false)))])):=by
        have hG2:=hG
        unfold prAv at hG2
        rw [hq] at hG2
        exact hG2
      have hcy:cyc m s nx x a=none:=by unfold cyc;rw [hq];rfl
      rw [hcy]
      refine spec_imm Tryz.func33 rfl Tryz.ntmps33 cfOK (fun _ _=>by kernel_rfl) rfl (Nat.le_of_ble_eq_true rfl) ?_
      intro M0 w0
      rw [Tryz.results33]
      refine amGo ?_
      ((try refine Or.inl ?_);refine ⟨_,(hG),amF,?_⟩;refine amC ?_)
      refine amGo ?_
      refine .inl ⟨AV.bool false,.inl rfl,?_⟩
      simp only [xr,simprocAttr]
      refine amGo ?_
      refine awp_cond amQ (fun hr => ?_) (fun hr => ?_)
      · refine amGoR ?_
        (refine awp_frz 3 rfl ?_;simp only [xz,simprocAttr])
        refine amGo ?_
        (simp only [xec,simprocAttr];refine ⟨[_,_,_],⟨rfl,rfl,rfl,trivial⟩,rfl,Imp.eq ?_⟩)
        rfl
      · simp at hr
end Go.Proofs.YtlhdeofkhajigaaGreat
