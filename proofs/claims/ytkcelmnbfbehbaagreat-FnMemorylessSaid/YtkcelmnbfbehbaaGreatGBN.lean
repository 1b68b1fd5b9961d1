/- BestMemoryless of the program, on the machine. Conditions: none. -/
import Derived.Test.YtkcelmnbfbehbaaGreatGEX
import Derived.Test.YtkcelmnbfbehbaaGreatZMlD
set_option linter.all false
namespace Go.Proofs.YtkcelmnbfbehbaaGreat
open Go Go.RowKit Am
def y5 (v:(Int×Int)×Bool):Option (Nat×(Int×Int))->Bool
 | none=>v.2
 | some p=>v.2 && decide (v.1.1*p.2.2<p.2.1*v.1.2)
def bT (V:Nat->(Int×Int)×Bool):Nat->Option (Nat×(Int×Int))
 | 0=>none
 | k+1=>if y5 (V k) (bT V k)=true then some (k,(V k).1) else bT V k
def rH (a:Int×Int):Prop:=0<=a.1/\a.1<=71400/\1<=a.2/\a.2<=71400
theorem oH {V:Nat->(Int×Int)×Bool}:∀ {k:Nat} {p:Nat×(Int×Int)},bT V k=some p->p.1<k/\(V p.1).2=true/\p.2=(V p.1).1
 | 0,_,h=>by cases h
 | k+1,p,h=>by
  unfold bT at h
  split at h
  ·rename_i hb
   cases h
   refine ⟨by simp,?_,rfl⟩
   unfold y5 at hb
   split at hb
   ·exact hb
   ·rw [Bool.and_eq_true] at hb;exact hb.1
  ·obtain ⟨h1,h2⟩:=oH h
   exact ⟨by omega,h2⟩
theorem CP {m s nx:List (List Int)} {x:Int} (h:(exB m s nx x).2=true):rH (exB m s nx x).1:=by
 unfold exB at h ⊢
 cases hq:(prQ m s nx x).2
 ·rw [hq] at h
  have h:(exV (exO (egs (prQ m s nx x).1.rows))).2=true:=h
  have hok:=vW (JG (lJ hq))
  show rH (exV (exO (egs (prQ m s nx x).1.rows))).1
  cases ho:exO (egs (prQ m s nx x).1.rows) with
  | none=>rw [ho] at h;cases h
  | some p =>
   obtain ⟨a,b⟩:=p
   have h1:=hok.2 a b ho
   exact ⟨h1.na,h1.ma,h1.nb,h1.mb⟩
 ·rw [hq] at h;cases h
abbrev bsH (m s:List (List Int)) (l:List Int):Option (Nat×(Int×Int))->List Ob
 | none=>[.box [.b (.sl (.ii m)),.b (.sl (.ii s))],.box [.b (.val (.int .i64 0)),.b (.val (.int .i64 0))],.box [.b (.val (.int .i64 0)),.b (.val (.int .i64 0))],.tree [29,3] (.ii (dB s.length m.length l))]
 | some p=>[.box [.b (.sl (.ii m)),.b (.sl (.ii s))],.box [.b (.val (.int .i64 0)),.b (.val (.int .i64 0))],.box [.b (.val (.int .i64 p.2.1)),.b (.val (.int .i64 p.2.2))],.tree [29,3] (.ii (dB s.length m.length l)),.tree [29,3] (.ii (dL m s p.1))]
abbrev bsV:Option (Nat×(Int×Int))->AV
 | none => .val (.slice none 0 0)
 | some _ => .lf (.own 4)
abbrev bsK (s:List (List Int)) (y:Nat):List (Nat×Bool×AV):=[(1,true,.int y),(2,true,.lf (.ptr 0 0)),(5,true,.lf (.ptr 1 0)),(8,true,.lf (.ptr 2 0)),(9,true,.int s.length),(10,true,.lf (.own 3))]
theorem RX {m s:List (List Int)} (hp:aO m s=true):jr m.length s.length (fun _ r=>(srv s m.length r).getD 0 0)=dL m s 0:=by
 have hl:=aQ hp
 unfold jr dL
 rw [SQ hp]
 unfold dB
 refine List.ext_getElem (by simp) fun i h1 h2 =>?_
 have hi:i<m.length:=by simpa using h1
 have hm:=DK (K:=s.length) hi
 simp only [List.getElem_map,List.getElem_range]
 refine List.ext_getElem (by simp;omega) fun r h3 h4 =>?_
 have hr:r<s.length:=by simpa using h3
 simp only [List.getElem_map,List.getElem_range,List.getElem_take,List.getElem_drop]
 unfold opP
 rw [Nat.mul_comm,Nat.mul_add_mod,Nat.mod_eq_of_lt hr]
set_option maxRecDepth 8000 in
set_option maxHeartbeats 8000000 in
theorem TA {m s:List (List Int)} {y:Nat} (hp:aO m s=true) (hy:y<m.length) (ht:bn m s y []=true) (hN:eU m s<=300) {V:Nat->(Int×Int)×Bool} (hV:∀ j,V j=exB m s (dL m s j) y) :
  bG Tryz.prog 22 [prA m s,.int y] [] [] (match bT V (eU m s) with | none => .tup [.one (.b (.val (.slice none 0 0))),frT (0,0),blT false] | some p => .tup [.one (.own 0),frT p.2,blT true]) (match bT V (eU m s) with | none=>[] | some p=>[.tree [29,3] (.ii (dL m s p.1))]):=by
 have hl:=aQ hp
 have hkn:=U0 hp
 have hNp:=SH hp
 refine bY Tryz.func22 rfl Tryz.ntmps22 aX (fun _ _=>by kernel_rfl) rfl rfl rfl ?_
 intro M0 w0 S φ0
 rw [Tryz.results22]
 refine ah ?_
 ((try refine Or.inl ?_);refine ⟨_,(lC _ _ _),.inl rfl,?_⟩;refine amC ?_)
 rw [ht]
 refine ah ?_
 ((try refine Or.inl ?_);refine ⟨_,(fun _=>oL hp),.inl rfl,?_⟩;refine amC ?_)
 refine ah ?_
 refine aj amQ (fun hz =>?_) (fun hz =>?_)
 ·simp at hz
  omega
 refine ah ?_
 (refine .inr (.inl (fU (uZ hp (F:=fun _ r=>(srv s m.length r).getD 0 0) fun i r _ hr=>XC hp i r hr) rfl rfl rfl rfl rfl rfl rfl ?_));refine amC ?_)
 rw [RX hp]
 refine ah ?_
 refine au (α:=Nat×Option (Nat×(Int×Int))) (fun q=>[(7,true,bsV q.2)]) [1,2,5,8,9,10] (fun q=>bsH m s (rM m s q.1) q.2) (fun q=>q.1<eU m s/\q.2=bT V q.1) (fun q=>eU m s-q.1) (0,none) (by exact aV) ⟨hNp,rfl⟩ fun q hq =>?_
 obtain ⟨j,o⟩:=q
 obtain ⟨hj,ho⟩:=hq
 simp only at hj ho
 have hP:=Gn m s (dL m s j) y
 have htr:∀ r∈dL m s j,r.length<=100:=fun r hr=>by
  obtain ⟨i,hi,rfl⟩:=List.mem_iff_getElem.1 hr
  have hi':i<m.length:=by unfold dL at hi;rw [fA] at hi;exact hi
  have h1:=og (K:=s.length) (rX hj) hi'
  rw [getD_in (by rw [fA];exact hi')] at h1
  have h2:(dL m s j)[i].length=s.length:=h1
  omega
 refine g2 ?_
 refine g1 ?_
 refine Tt ⟨tab ((7,true,bsV (bT V (j+1)))::bsK s y),bsH m s (rM m s j) (bT V (j+1))⟩ ?_ ?_
 ·cases o with
  | none =>
   dsimp only [bsH,bsV]
   simp only [xr,simprocAttr]
   ·cases hq:(prQ m s (dL m s j) y).2
    ·have hF:=lJ hq
     have hex:V j=exV (exO (egs (prQ m s (dL m s j) y).1.rows)):=by rw [hV j];unfold exB;rw [hq];rfl
     rw [show prR (prQ m s (dL m s j) y) = .tup [.one (.ptr 0 0),.one (.b (.val (.bool true)))] by unfold prR;rw [hq];rfl,show prO s.length (prQ m s (dL m s j) y)=[.box [.own 1,.own 2,.b (.val (.int .i64 s.length))],.row 145 (.k 2 (prQ m s (dL m s j) y).1.list),.row 86 (.k 4 (egs (prQ m s (dL m s j) y).1.rows))] by unfold prO;rw [hq];rfl] at hP
     generalize (prQ m s (dL m s j) y).1=g at hP hF hex
     have hok:=vW (JG hF)
     have hxd:=H7 (L:=g.list) rfl (QV hF) hF.pos (QW hF) hok.1 hok.2 s.length
     refine ah ?_
     (refine .inr (.inl (fU (hP) rfl rfl rfl rfl rfl rfl rfl ?_));refine amC ?_)
     refine ah ?_
     refine aj amQ (fun hr =>?_) (fun hr =>?_)
     ·refine ah ?_
      cases hoE:exO (egs g.rows) with
      | none =>
       rw [hoE] at hxd hex
       have hnx:bT V (j+1)=bT V j:=by show (if y5 (V j) (bT V j)=true then some (j,(V j).1) else bT V j)=bT V j;rw [if_neg];rw [hex];cases bT V j<;>exact Bool.false_ne_true
       rw [hnx,← ho]
       have hxd:Does Tryz.prog 71 [prX g.list (egs g.rows) s.length] (.imm (.tup [frT (0,0),blT false])):=hxd
       ((try refine Or.inl ?_);refine ⟨_,(hxd),.inl rfl,?_⟩;refine amC ?_)
       refine ah ?_
       refine .inl ⟨AV.int 0,.inl rfl,?_⟩
       simp only [xr,simprocAttr]
       refine ah ?_
       refine aj amQ (fun hs =>?_) (fun hs =>?_)
       ·cases hs
       ·refine ah ?_
        refine Dp 4 (Nat.le_of_ble_eq_true rfl) (aJ ?_ rfl rfl rfl)
        exact aV
      | some ab =>
       obtain ⟨a,b⟩:=ab
       have hrt:=hok.2 a b hoE
       rw [hoE] at hxd hex
       have hxd:Does Tryz.prog 71 [prX g.list (egs g.rows) s.length] (.imm (.tup [frT (a,b),blT true])):=hxd
       ((try refine Or.inl ?_);refine ⟨_,(hxd),.inl rfl,?_⟩;refine amC ?_)
       refine ah ?_
       have hnx:bT V (j+1)=some (j,(a,b)):=by
        show (if y5 (V j) (bT V j)=true then some (j,(V j).1) else bT V j)=_
        rw [hex,← ho]
        rfl
       rw [hnx]
       refine .inl ⟨AV.int 0,.inl rfl,?_⟩
       simp only [xr,simprocAttr]
       refine ah ?_
       refine aj amQ (fun hs =>?_) (fun hs =>?_)
       ·(refine amB ?_;refine bM 1 [(1,[8]),(4,[2])] [8,2] [(1,[2]),(3,[2]),(4,[8])] ?_;refine mg ?_)
        (refine .inr (.inl ⟨_,_,Hg (DU (dL m s j) (by unfold dL;rw [fA];omega) htr) rfl rfl rfl rfl rfl rfl,?_⟩);refine vN ?_)
        simp only [xm,simprocAttr]
        refine QJ ?_
        (refine KH 5 rfl ?_;simp only [xz,simprocAttr])
        (refine KH 6 rfl ?_;simp only [xz,simprocAttr])
        (refine Rj 4 rfl rfl ?_;simp only [xzb,simprocAttr])
        (refine PV 4 8 rfl rfl (by decide) rfl rfl ?_;simp only [xm,simprocAttr])
        refine Dp 5 (Nat.le_of_ble_eq_true rfl) (aJ ?_ rfl rfl rfl)
        exact aV
       ·cases hs
     ·cases hr
    ·have hex:V j=((0,0),false):=by rw [hV j];unfold exB;rw [hq];rfl
     have hnx:bT V (j+1)=bT V j:=by show (if y5 (V j) (bT V j)=true then some (j,(V j).1) else bT V j)=bT V j;rw [if_neg];rw [hex];cases bT V j<;>exact Bool.false_ne_true
     rw [hnx,← ho]
     rw [show prR (prQ m s (dL m s j) y) = .tup [.one (.b (.val (.pointer none))),.one (.b (.val (.bool false)))] by unfold prR;rw [hq];rfl,show prO s.length (prQ m s (dL m s j) y)=[] by unfold prO;rw [hq];rfl] at hP
     refine ah ?_
     (refine .inr (.inl (fU (hP) rfl rfl rfl rfl rfl rfl rfl ?_));refine amC ?_)
     refine ah ?_
     refine aj amQ (fun hr =>?_) (fun hr =>?_)
     ·cases hr
     ·refine ah ?_
      refine Vj ?_
      exact aV
  | some p =>
   have hal:(dL m s p.1).length=m.length:=fA _ _ _
   dsimp only [bsH,bsV]
   simp only [xr,simprocAttr]
   ·cases hq:(prQ m s (dL m s j) y).2
    ·have hF:=lJ hq
     have hex:V j=exV (exO (egs (prQ m s (dL m s j) y).1.rows)):=by rw [hV j];unfold exB;rw [hq];rfl
     rw [show prR (prQ m s (dL m s j) y) = .tup [.one (.ptr 0 0),.one (.b (.val (.bool true)))] by unfold prR;rw [hq];rfl,show prO s.length (prQ m s (dL m s j) y)=[.box [.own 1,.own 2,.b (.val (.int .i64 s.length))],.row 145 (.k 2 (prQ m s (dL m s j) y).1.list),.row 86 (.k 4 (egs (prQ m s (dL m s j) y).1.rows))] by unfold prO;rw [hq];rfl] at hP
     generalize (prQ m s (dL m s j) y).1=g at hP hF hex
     have hok:=vW (JG hF)
     have hxd:=H7 (L:=g.list) rfl (QV hF) hF.pos (QW hF) hok.1 hok.2 s.length
     refine ah ?_
     (refine .inr (.inl (fU (hP) rfl rfl rfl rfl rfl rfl rfl ?_));refine amC ?_)
     refine ah ?_
     refine aj amQ (fun hr =>?_) (fun hr =>?_)
     ·refine ah ?_
      cases hoE:exO (egs g.rows) with
      | none =>
       rw [hoE] at hxd hex
       have hnx:bT V (j+1)=bT V j:=by show (if y5 (V j) (bT V j)=true then some (j,(V j).1) else bT V j)=bT V j;rw [if_neg];rw [hex];cases bT V j<;>exact Bool.false_ne_true
       rw [hnx,← ho]
       have hxd:Does Tryz.prog 71 [prX g.list (egs g.rows) s.length] (.imm (.tup [frT (0,0),blT false])):=hxd
       ((try refine Or.inl ?_);refine ⟨_,(hxd),.inl rfl,?_⟩;refine amC ?_)
       refine ah ?_
       refine .inl ⟨AV.int 0,.inl rfl,?_⟩
       simp only [xr,simprocAttr]
       refine ah ?_
       refine aj amQ (fun hs =>?_) (fun hs =>?_)
       ·cases hs
       ·refine ah ?_
        refine Dp 5 (Nat.le_of_ble_eq_true rfl) (aJ ?_ rfl rfl rfl)
        exact aV
      | some ab =>
       obtain ⟨a,b⟩:=ab
       have hrt:=hok.2 a b hoE
       rw [hoE] at hxd hex
       have hxd:Does Tryz.prog 71 [prX g.list (egs g.rows) s.length] (.imm (.tup [frT (a,b),blT true])):=hxd
       ((try refine Or.inl ?_);refine ⟨_,(hxd),.inl rfl,?_⟩;refine amC ?_)
       refine ah ?_
       have hrp:rH p.2:=by rw [(oH ho.symm).2.2,hV];exact CP (by rw [← hV];exact (oH ho.symm).2.1)
       obtain ⟨r1,r2,r3,r4⟩:=hrp
       have a1:=hrt.na
       have a2:=hrt.ma
       have a3:=hrt.nb
       have a4:=hrt.mb
       have q5:0<=a*p.2.2/\a*p.2.2<=71400*71400:=⟨Int.mul_nonneg a1 (by omega),Int.mul_le_mul a2 r4 (by omega) (by decide)⟩
       have q6:0<=p.2.1*b/\p.2.1*b<=71400*71400:=⟨Int.mul_nonneg r1 (by omega),Int.mul_le_mul r2 a4 (by omega) (by decide)⟩
       have hcm:=sH (a,b) p.2 (by show I64 (a*p.2.2);unfold I64;omega) (by show I64 (p.2.1*b);unfold I64;omega)
       have hcv:vT ((a,b).1*p.2.2) (p.2.1*(a,b).2)<0↔a*p.2.2<p.2.1*b:=by
        show vT (a*p.2.2) (p.2.1*b)<0↔_
        unfold vT
        split
        ·simp;omega
        ·split<;>simp<;>omega
       generalize vT ((a,b).1*p.2.2) (p.2.1*(a,b).2)=cv at hcm hcv
       ((try refine Or.inl ?_);refine ⟨_,(hcm),.inl rfl,?_⟩;refine amC ?_)
       refine ah ?_
       refine aj amQ (fun hs =>?_) (fun hs =>?_)
       ·have hs:cv<0:=by simpa using hs
        have hnx:bT V (j+1)=some (j,(a,b)):=by
         show (if y5 (V j) (bT V j)=true then some (j,(V j).1) else bT V j)=_
         rw [hex,← ho,if_pos]
         ·rfl
         ·show (true && decide (a*p.2.2<p.2.1*b))=true
          rw [decide_eq_true (hcv.1 hs)]
          rfl
        rw [hnx]
        (refine amB ?_;refine bM 1 [(1,[9]),(4,[2])] [9,2] [(1,[2]),(3,[2]),(4,[9])] ?_;refine mg ?_)
        (refine .inr (.inl ⟨_,_,Hg (DU (dL m s j) (by unfold dL;rw [fA];omega) htr) rfl rfl rfl rfl rfl rfl,?_⟩);refine vN ?_)
        simp only [xm,simprocAttr]
        refine QJ ?_
        (refine Rk 4 rfl ?_;simp only [xz,simprocAttr])
        (refine PV 4 9 rfl rfl (by decide) rfl rfl ?_;simp only [xm,simprocAttr])
        refine Dp 5 (Nat.le_of_ble_eq_true rfl) (aJ ?_ rfl rfl rfl)
        exact aV
       ·have hs:¬ cv<0:=by simpa using hs
        have hnx:bT V (j+1)=some p:=by
         show (if y5 (V j) (bT V j)=true then some (j,(V j).1) else bT V j)=_
         rw [hex,← ho,if_neg]
         show ¬ (true && decide (a*p.2.2<p.2.1*b))=true
         rw [decide_eq_false fun h=>hs (hcv.2 h)]
         exact Bool.false_ne_true
        rw [hnx]
        refine ah ?_
        refine Dp 5 (Nat.le_of_ble_eq_true rfl) (aJ ?_ rfl rfl rfl)
        exact aV
     ·cases hr
    ·have hex:V j=((0,0),false):=by rw [hV j];unfold exB;rw [hq];rfl
     have hnx:bT V (j+1)=bT V j:=by show (if y5 (V j) (bT V j)=true then some (j,(V j).1) else bT V j)=bT V j;rw [if_neg];rw [hex];cases bT V j<;>exact Bool.false_ne_true
     rw [hnx,← ho]
     rw [show prR (prQ m s (dL m s j) y) = .tup [.one (.b (.val (.pointer none))),.one (.b (.val (.bool false)))] by unfold prR;rw [hq];rfl,show prO s.length (prQ m s (dL m s j) y)=[] by unfold prO;rw [hq];rfl] at hP
     refine ah ?_
     (refine .inr (.inl (fU (hP) rfl rfl rfl rfl rfl rfl rfl ?_));refine amC ?_)
     refine ah ?_
     refine aj amQ (fun hr =>?_) (fun hr =>?_)
     ·cases hr
     ·refine ah ?_
      refine Vj ?_
      exact aV
 clear hP
 obtain ⟨o',ho'⟩:∃ o',o'=bT V (j+1):=⟨_,rfl⟩
 rw [← ho']
 have enk:((m.length:Nat):Int)*(s.length:Nat)=(m.length*s.length:Nat):=by rw [Int.natCast_mul]
 have i0:I64 (((m.length:Nat):Int)*(s.length:Nat)):=by rw [enk];unfold I64;omega
 have i00:I64 (((m.length:Nat):Int)*(s.length:Nat)-1):=by rw [enk];unfold I64;omega
 have hnext:=SN hj
 cases o' with
 | none =>
  dsimp only [bsH,bsV,bsK]
  refine ah ?_
  rw [enk]
  refine au (α:=Nat×List Int) (fun q=>[(15,true,.int ((q.1:Int)-1))]) [1,2,5,7,8,9,10] (fun q=>[.box [.b (.sl (.ii m)),.b (.sl (.ii s))],.box [.b (.val (.int .i64 0)),.b (.val (.int .i64 0))],.box [.b (.val (.int .i64 0)),.b (.val (.int .i64 0))]]++[.tree [29,3] (.ii (dB s.length m.length q.2))]++[]) (fun q=>q.1<=m.length*s.length/\q.2.length=m.length*s.length/\(∀ k,k<m.length*s.length->q.2.getD k 0∈opP m s k)/\zH (opP m s) (whP m s) q.1 q.2=zH (opP m s) (whP m s) (m.length*s.length) (rM m s j)) (fun q=>q.1) (m.length*s.length,rM m s j) (by exact aV) ⟨Nat.le_refl _,rX hj,fun k hk=>GX hj hk,rfl⟩ fun q hq =>?_
  obtain ⟨p0,l⟩:=q
  obtain ⟨hp1,hp2,hp3,hp4⟩:=hq
  dsimp only at hp1 hp2 hp3 hp4 ⊢
  simp only [List.cons_append,List.nil_append]
  simp only [xr,simprocAttr]
  refine ah ?_
  refine aj amQ (fun hk =>?_) (fun hk =>?_)
  ·have hk:=of_decide_eq_true hk
   obtain ⟨k,rfl⟩:∃ k,p0=k+1:=⟨p0-1,by omega⟩
   have ek:((k+1:Nat):Int)-1=(k:Int):=by omega
   have hK:0<s.length:=by omega
   have hmod:=Nat.mod_lt k hK
   have hdiv:k / s.length<m.length:=Nat.div_lt_of_lt_mul (by rw [Nat.mul_comm];omega)
   have hdm:k / s.length*s.length+k % s.length=k:=by rw [Nat.mul_comm];exact Nat.div_add_mod _ _
   have emod:((k:Nat):Int) % (s.length:Nat)=(k % s.length:Nat):=by rw [Int.natCast_emod]
   have ediv:((k:Nat):Int) / (s.length:Nat)=(k / s.length:Nat):=by rw [Int.natCast_ediv]
   have hrl:=og (K:=s.length) hp2 hdiv
   have hat:((dB s.length m.length l).getD (k / s.length) []).getD (k % s.length) 0=l.getD k 0:=by rw [Eb hdiv hmod,hdm]
   have hRl:=fA s.length m.length l
   have hop:opP m s k=srv s m.length (k % s.length):=rfl
   have hset:=fun x=>Gu (K:=s.length) hp2 hdiv hmod x
   rw [hdm] at hset
   generalize k / s.length=d at *
   generalize k % s.length=r at *
   rw [ek]
   refine ah ?_
   rw [emod]
   ((try refine Or.inl ?_);refine ⟨_,(oh m s r hmod (eG hp _ hmod) (by omega)),amF,?_⟩;refine amC ?_)
   refine amB ?_
   (refine kP 3 (d) rfl amT ?_;simp only [xr,simprocAttr])
   refine g7 ?_
   simp only [xr,simprocAttr,ediv,emod]
   refine amS ?_
   ((try refine Or.inl ?_);refine ⟨_,(PK (srv s m.length r) (((dB s.length m.length l).getD d []).getD r 0)),.inl rfl,?_⟩;refine amC ?_)
   have hmem:l.getD k 0∈srv s m.length r:=by rw [← hop];exact hp3 k (by omega)
   obtain ⟨i,hi,hx⟩:=List.mem_iff_getElem.1 hmem
   have hwi:whP m s k (l.getD k 0)=i:=by
    rw [← hx,← getD_in (d:=0) hi,← hop]
    exact Xh k i (by rw [hop];exact hi)
   have hxi:idxOf (fun y=>decide (((dB s.length m.length l).getD d []).getD r 0=y)) (srv s m.length r)=(i:Int):=by
    rw [hat,← hx,← getD_in (d:=0) hi]
    exact IY hi
   have hsl:(srv s m.length r).length<=4:=by rw [← hop];exact KZ hp k
   have hnx:zH (opP m s) (whP m s) (k+1) l=if i+1<(opP m s k).length then some (l.set k ((opP m s k).getD (i+1) 0)) else zH (opP m s) (whP m s) k (l.set k ((opP m s k).getD 0 0)):=by
    show (if whP m s k (l.getD k 0)+1<(opP m s k).length then some (l.set k ((opP m s k).getD (whP m s k (l.getD k 0)+1) 0)) else _)=_
    rw [hwi]
   rw [hxi]
   refine ah ?_
   refine aj amQ (fun hi1 =>?_) (fun hi1 =>?_)
   ·have hi1:=of_decide_eq_true hi1
    have h5:=hnx
    rw [if_pos (by rw [hop];omega),hp4,hnext] at h5
    by_cases hj1:j+1<eU m s
    ·rw [if_pos hj1] at h5
     have h6:=Option.some.inj h5
     rw [hop] at h6
     (refine amB ?_;refine bM 0 [(15,[4])] [4] [(5,[]),(14,[]),(15,[])] ?_;simp (maxSteps:=3000000) only [xg,↓xgp,ediv,emod,xr,simprocAttr];refine QJ ?_)
     rw [show ((i:Int)+1).toNat=i+1 by omega]
     (refine mF 3 rfl (by decide) rfl rfl amT rfl ?_;simp only [xu,simprocAttr])
     rw [hset,← h6]
     refine ah ?_
     refine aj amQ (fun hkz =>?_) (fun hkz =>?_)
     ·have hkz:=of_decide_eq_true hkz
      omega
     refine ah ?_
     refine ⟨(j+1,none),hj1,ho',(by show eU m s-(j+1)<eU m s-j;omega),.inr ⟨4,Nat.le_of_ble_eq_true rfl,aJ ?_ rfl rfl rfl⟩⟩
     exact aV
    ·rw [if_neg hj1] at h5
     cases h5
   ·have hi1:=of_decide_eq_false hi1
    have h5:=hnx
    rw [if_neg (by rw [hop];omega),hp4] at h5
    rw [hop] at h5
    have h0:0<(srv s m.length r).length:=by rw [← hop];exact wK hp k
    (refine amB ?_;refine bM 0 [(13,[4])] [4] [(5,[]),(12,[]),(13,[])] ?_;simp (maxSteps:=3000000) only [xg,↓xgp,ediv,emod,xr,simprocAttr];refine QJ ?_)
    (refine mF 3 rfl (by decide) rfl rfl amT rfl ?_;simp only [xu,simprocAttr])
    rw [hset]
    refine ah ?_
    refine ⟨(k,l.set k ((srv s m.length r).getD 0 0)),(by show k<=_;omega),(by show (l.set _ _).length=_;rw [List.length_set];exact hp2),(fun q hq =>?_),h5.symm,(by show k<k+1;omega),.inr ⟨4,Nat.le_of_ble_eq_true rfl,aJ ?_ rfl rfl rfl⟩⟩
    ·show (l.set k ((srv s m.length r).getD 0 0)).getD q 0∈_
     rw [Eo]
     split
     ·rename_i hqk
      rw [← hqk.1,hop,getD_in h0]
      exact List.getElem_mem _
     ·exact hp3 q hq
    ·exact aV
  ·have hk:=of_decide_eq_false hk
   obtain rfl:p0=0:=by omega
   have h5:=hp4
   rw [hnext] at h5
   have hfin:eU m s=j+1:=by
    by_cases hj1:j+1<eU m s
    ·rw [if_pos hj1] at h5
     cases h5
    ·omega
   rw [hfin,← ho']
   dsimp only
   refine ah ?_
   refine aj amQ (fun hkz =>?_) (fun hkz =>?_)
   ·skip
    refine ah ?_
    refine aj amQ (fun hnil =>?_) (fun hnil =>?_)
    ·refine ah ?_
     (simp only [aG,aN];refine kM (vs:=[_,_,_]) [] rfl trivial rfl rfl rfl rfl ⟨rfl,⟨amK,rfl⟩,rfl,trivial⟩ ?_;try rfl)
    ·cases hnil
   ·simp at hkz
 | some p =>
  dsimp only [bsH,bsV,bsK]
  refine ah ?_
  rw [enk]
  refine au (α:=Nat×List Int) (fun q=>[(15,true,.int ((q.1:Int)-1))]) [1,2,5,7,8,9,10] (fun q=>[.box [.b (.sl (.ii m)),.b (.sl (.ii s))],.box [.b (.val (.int .i64 0)),.b (.val (.int .i64 0))],.box [.b (.val (.int .i64 p.2.1)),.b (.val (.int .i64 p.2.2))]]++[.tree [29,3] (.ii (dB s.length m.length q.2))]++[.tree [29,3] (.ii (dL m s p.1))]) (fun q=>q.1<=m.length*s.length/\q.2.length=m.length*s.length/\(∀ k,k<m.length*s.length->q.2.getD k 0∈opP m s k)/\zH (opP m s) (whP m s) q.1 q.2=zH (opP m s) (whP m s) (m.length*s.length) (rM m s j)) (fun q=>q.1) (m.length*s.length,rM m s j) (by exact aV) ⟨Nat.le_refl _,rX hj,fun k hk=>GX hj hk,rfl⟩ fun q hq =>?_
  obtain ⟨p0,l⟩:=q
  obtain ⟨hp1,hp2,hp3,hp4⟩:=hq
  dsimp only at hp1 hp2 hp3 hp4 ⊢
  simp only [List.cons_append,List.nil_append]
  simp only [xr,simprocAttr]
  refine ah ?_
  refine aj amQ (fun hk =>?_) (fun hk =>?_)
  ·have hk:=of_decide_eq_true hk
   obtain ⟨k,rfl⟩:∃ k,p0=k+1:=⟨p0-1,by omega⟩
   have ek:((k+1:Nat):Int)-1=(k:Int):=by omega
   have hK:0<s.length:=by omega
   have hmod:=Nat.mod_lt k hK
   have hdiv:k / s.length<m.length:=Nat.div_lt_of_lt_mul (by rw [Nat.mul_comm];omega)
   have hdm:k / s.length*s.length+k % s.length=k:=by rw [Nat.mul_comm];exact Nat.div_add_mod _ _
   have emod:((k:Nat):Int) % (s.length:Nat)=(k % s.length:Nat):=by rw [Int.natCast_emod]
   have ediv:((k:Nat):Int) / (s.length:Nat)=(k / s.length:Nat):=by rw [Int.natCast_ediv]
   have hrl:=og (K:=s.length) hp2 hdiv
   have hat:((dB s.length m.length l).getD (k / s.length) []).getD (k % s.length) 0=l.getD k 0:=by rw [Eb hdiv hmod,hdm]
   have hRl:=fA s.length m.length l
   have hop:opP m s k=srv s m.length (k % s.length):=rfl
   have hset:=fun x=>Gu (K:=s.length) hp2 hdiv hmod x
   rw [hdm] at hset
   generalize k / s.length=d at *
   generalize k % s.length=r at *
   rw [ek]
   refine ah ?_
   rw [emod]
   ((try refine Or.inl ?_);refine ⟨_,(oh m s r hmod (eG hp _ hmod) (by omega)),amF,?_⟩;refine amC ?_)
   refine amB ?_
   (refine kP 3 (d) rfl amT ?_;simp only [xr,simprocAttr])
   refine g7 ?_
   simp only [xr,simprocAttr,ediv,emod]
   refine amS ?_
   ((try refine Or.inl ?_);refine ⟨_,(PK (srv s m.length r) (((dB s.length m.length l).getD d []).getD r 0)),.inl rfl,?_⟩;refine amC ?_)
   have hmem:l.getD k 0∈srv s m.length r:=by rw [← hop];exact hp3 k (by omega)
   obtain ⟨i,hi,hx⟩:=List.mem_iff_getElem.1 hmem
   have hwi:whP m s k (l.getD k 0)=i:=by
    rw [← hx,← getD_in (d:=0) hi,← hop]
    exact Xh k i (by rw [hop];exact hi)
   have hxi:idxOf (fun y=>decide (((dB s.length m.length l).getD d []).getD r 0=y)) (srv s m.length r)=(i:Int):=by
    rw [hat,← hx,← getD_in (d:=0) hi]
    exact IY hi
   have hsl:(srv s m.length r).length<=4:=by rw [← hop];exact KZ hp k
   have hnx:zH (opP m s) (whP m s) (k+1) l=if i+1<(opP m s k).length then some (l.set k ((opP m s k).getD (i+1) 0)) else zH (opP m s) (whP m s) k (l.set k ((opP m s k).getD 0 0)):=by
    show (if whP m s k (l.getD k 0)+1<(opP m s k).length then some (l.set k ((opP m s k).getD (whP m s k (l.getD k 0)+1) 0)) else _)=_
    rw [hwi]
   rw [hxi]
   refine ah ?_
   refine aj amQ (fun hi1 =>?_) (fun hi1 =>?_)
   ·have hi1:=of_decide_eq_true hi1
    have h5:=hnx
    rw [if_pos (by rw [hop];omega),hp4,hnext] at h5
    by_cases hj1:j+1<eU m s
    ·rw [if_pos hj1] at h5
     have h6:=Option.some.inj h5
     rw [hop] at h6
     (refine amB ?_;refine bM 0 [(15,[5])] [5] [(5,[]),(14,[]),(15,[])] ?_;simp (maxSteps:=3000000) only [xg,↓xgp,ediv,emod,xr,simprocAttr];refine QJ ?_)
     rw [show ((i:Int)+1).toNat=i+1 by omega]
     (refine mF 3 rfl (by decide) rfl rfl amT rfl ?_;simp only [xu,simprocAttr])
     rw [hset,← h6]
     refine ah ?_
     refine aj amQ (fun hkz =>?_) (fun hkz =>?_)
     ·have hkz:=of_decide_eq_true hkz
      omega
     refine ah ?_
     refine ⟨(j+1,(some p)),hj1,ho',(by show eU m s-(j+1)<eU m s-j;omega),.inr ⟨5,Nat.le_of_ble_eq_true rfl,aJ ?_ rfl rfl rfl⟩⟩
     exact aV
    ·rw [if_neg hj1] at h5
     cases h5
   ·have hi1:=of_decide_eq_false hi1
    have h5:=hnx
    rw [if_neg (by rw [hop];omega),hp4] at h5
    rw [hop] at h5
    have h0:0<(srv s m.length r).length:=by rw [← hop];exact wK hp k
    (refine amB ?_;refine bM 0 [(13,[5])] [5] [(5,[]),(12,[]),(13,[])] ?_;simp (maxSteps:=3000000) only [xg,↓xgp,ediv,emod,xr,simprocAttr];refine QJ ?_)
    (refine mF 3 rfl (by decide) rfl rfl amT rfl ?_;simp only [xu,simprocAttr])
    rw [hset]
    refine ah ?_
    refine ⟨(k,l.set k ((srv s m.length r).getD 0 0)),(by show k<=_;omega),(by show (l.set _ _).length=_;rw [List.length_set];exact hp2),(fun q hq =>?_),h5.symm,(by show k<k+1;omega),.inr ⟨5,Nat.le_of_ble_eq_true rfl,aJ ?_ rfl rfl rfl⟩⟩
    ·show (l.set k ((srv s m.length r).getD 0 0)).getD q 0∈_
     rw [Eo]
     split
     ·rename_i hqk
      rw [← hqk.1,hop,getD_in h0]
      exact List.getElem_mem _
     ·exact hp3 q hq
    ·exact aV
  ·have hk:=of_decide_eq_false hk
   obtain rfl:p0=0:=by omega
   have h5:=hp4
   rw [hnext] at h5
   have hfin:eU m s=j+1:=by
    by_cases hj1:j+1<eU m s
    ·rw [if_pos hj1] at h5
     cases h5
    ·omega
   rw [hfin,← ho']
   dsimp only
   refine ah ?_
   refine aj amQ (fun hkz =>?_) (fun hkz =>?_)
   ·skip
    have hal:(dL m s p.1).length=m.length:=fA _ _ _
    refine ah ?_
    refine aj amQ (fun hnil =>?_) (fun hnil =>?_)
    ·cases hnil
    ·(refine amB ?_;refine bM 0 [(3,[1])] [1] [(3,[])] ?_;refine mg ?_)
     refine ah ?_
     (simp only [aG,aN];refine kM (vs:=[_,_,_]) [4] rfl ⟨rfl,trivial⟩ rfl rfl rfl rfl ⟨rfl,⟨amK,rfl⟩,rfl,trivial⟩ ?_;try rfl)
   ·simp at hkz
def bmT (m s:List (List Int)):Option (Nat×(Int×Int))->List (List Int)
 | none=>[]
 | some p=>dL m s p.1
def bmR:Option (Nat×(Int×Int))->Int×Int
 | none=>(0,0)
 | some p=>p.2
abbrev bsA (m s:List (List Int)) (o:Option (Nat×(Int×Int))):AV := .tup [.one (.b (.sl (.ii (bmT m s o)))),frT (bmR o),blT o.isSome]
theorem Wn {m s nx:List (List Int)} {y:Nat} (ht:bn m s y []=true) (ha:pY m s nx=true):prQ m s nx y=pr m s nx y:=by
 unfold prQ
 rw [ht,ha,Int.toNat_natCast]
 rfl
theorem ZJ {m s:List (List Int)} {i:Nat} (hi:i<eU m s):((fQ (opP m s) (m.length*s.length)).map (dB s.length m.length)).getD i []=dL m s i:=by
 have h:i<(fQ (opP m s) (m.length*s.length)).length:=by rw [jT];exact hi
 rw [getD_in (by rw [List.length_map];exact h),List.getElem_map]
 unfold dL rM
 rw [getD_in h]
abbrev bsB (m s:List (List Int)) (o:Option (Nat×(Int×Int))):List Ob:=[.box [.b (.sl (.ii m)),.b (.sl (.ii s))],.box [.b (.val (.int .i64 0)),.b (.val (.int .i64 0))],.gone,.box [.b (.val (.int .i64 (bmR o).1)),.b (.val (.int .i64 (bmR o).2))]]
set_option maxRecDepth 8000 in
set_option maxHeartbeats 4000000 in
theorem Oo {m s:List (List Int)} {y:Nat} (hp:aO m s=true) (hy:y<m.length) (ht:bn m s y []=true) (hN:eU m s<=300) {V:Nat->(Int×Int)×Bool} (hV:∀ j,V j=exB m s (dL m s j) y) :
  Does Tryz.prog 23 [prA m s,.int y] (.imm (bsA m s (bT V (eU m s)))):=by
 have hl:=aQ hp
 obtain ⟨L,hL⟩:∃ L,L=(fQ (opP m s) (m.length*s.length)).map (dB s.length m.length):=⟨_,rfl⟩
 have hLl:L.length=eU m s:=by rw [hL,List.length_map,jT];rfl
 have hLa:∀ i,i<eU m s->L.getD i []=dL m s i:=fun i hi=>by rw [hL];exact ZJ hi
 have hal9:=Dn hp hN
 rw [← hL] at hal9
 clear hL
 refine aC Tryz.func23 rfl Tryz.ntmps23 aX (fun _ _=>by kernel_rfl) rfl (Nat.le_of_ble_eq_true rfl) ?_
 intro M0 w0
 rw [Tryz.results23]
 refine ah ?_
 ((try refine Or.inl ?_);refine ⟨_,(tY hp),.inl rfl,?_⟩;refine amC ?_)
 refine ah ?_
 ((try refine Or.inl ?_);refine ⟨_,(fun _=>uF m s y []),.inl rfl,?_⟩;refine amC ?_)
 rw [ht]
 refine ah ?_
 refine aj amQ (fun hz =>?_) (fun hz =>?_)
 ·simp at hz
  omega
 refine ah ?_
 ((try refine Or.inl ?_);refine ⟨_,(hal9),amF,?_⟩;refine amC ?_)
 refine ah ?_
 (refine aU 2 rfl ?_;simp only [xz,simprocAttr])
 refine au (α:=Nat) (fun i=>[(13,true,.int i),(10,true,.sl (.ii (bmT m s (bT V i)))),(12,true,.bool (bT V i).isSome)]) [1,2,5,9,11] (fun i=>bsB m s (bT V i)) (fun i=>i<=eU m s) (fun i=>eU m s-i) 0 (by exact aV) (Nat.zero_le _) fun i hi =>?_
 simp only [xr,simprocAttr]
 refine ah ?_
 refine aj amQ (fun hd =>?_) (fun hd =>?_)
 ·have hd:=of_decide_eq_true hd
  have hi':i<eU m s:=by omega
  have ha:=ZI hi'
  have hat:=hLa i hi'
  have hmk:=Ve m s (dL m s i) y hp ha hy
  have hVi:=hV i
  unfold exB at hVi
  rw [Wn ht ha] at hVi
  have hQF:=lJ (m:=m) (s:=s) (nx:=dL m s i) (x:=(y:Int))
  rw [Wn ht ha] at hQF
  unfold adD at hmk
  (refine amB ?_;refine fF [4] 8 [] (by kernel_rfl) (by kernel_rfl) (by kernel_rfl) (by kernel_rfl) (by kernel_rfl) ?_;refine amM ?_)
  rw [hat]
  cases hq:(pr m s (dL m s i) y).2
  ·have hF:=hQF hq
   rw [hq] at hVi hmk
   have hVi:V i=exV (exO (egs (pr m s (dL m s i) y).1.rows)):=hVi
   generalize (pr m s (dL m s i) y).1=g at hF hVi hmk
   have hok:=vW (JG hF)
   have hex:=Ri hF hok.1
   ((try refine Or.inl ?_);refine ⟨_,(hmk),amF,?_⟩;refine amC ?_)
   refine ah ?_
   refine aj amQ (fun hb =>?_) (fun hb =>?_)
   ·cases hb
   refine ah ?_
   cases hoE:exO (egs g.rows) with
   | none =>
    rw [hoE] at hex hVi
    have hex:Does Tryz.prog 78 [grA g] (.imm (.tup [frT (0,0),blT false])):=hex
    have hnx:bT V (i+1)=bT V i:=by show (if y5 (V i) (bT V i)=true then some (i,(V i).1) else bT V i)=bT V i;rw [if_neg];rw [hVi];cases bT V i<;>exact Bool.false_ne_true
    ((try refine Or.inl ?_);refine ⟨_,(hex),.inl rfl,?_⟩;refine amC ?_)
    refine ah ?_
    refine .inl ⟨AV.int 0,.inl rfl,?_⟩
    simp only [xr,simprocAttr]
    refine ah ?_
    refine aj amQ (fun hs =>?_) (fun hs =>?_)
    ·cases hs
    refine ah ?_
    refine ⟨i+1,by omega,by omega,.inr ⟨4,Nat.le_of_ble_eq_true rfl,aJ ?_ rfl rfl rfl⟩⟩
    rw [hnx]
    exact aV
   | some ab =>
    obtain ⟨a,b⟩:=ab
    have hrt:=hok.2 a b hoE
    rw [hoE] at hex hVi
    have hex:Does Tryz.prog 78 [grA g] (.imm (.tup [frT (a,b),blT true])):=hex
    have hst:bT V (i+1)=if y5 (V i) (bT V i)=true then some (i,(V i).1) else bT V i:=rfl
    rw [hVi] at hst
    cases ho:bT V i with
    | none =>
     rw [ho] at hst
     have hnx:bT V (i+1)=some (i,(a,b)):=hst
     simp only [Option.isSome_none]
     ((try refine Or.inl ?_);refine ⟨_,(hex),.inl rfl,?_⟩;refine amC ?_)
     refine ah ?_
     refine .inl ⟨AV.int 0,.inl rfl,?_⟩
     simp only [xr,simprocAttr]
     refine ah ?_
     refine aj amQ (fun hs =>?_) (fun hs =>?_)
     ·refine ah ?_
      rw [hat]
      refine ah ?_
      refine ⟨i+1,by omega,by omega,.inr ⟨4,Nat.le_of_ble_eq_true rfl,aJ ?_ rfl rfl rfl⟩⟩
      rw [hnx]
      exact aV
     ·cases hs
    | some p =>
     rw [ho] at hst
     have hrp:rH p.2:=by rw [(oH ho).2.2,hV];exact CP (by rw [← hV];exact (oH ho).2.1)
     obtain ⟨r1,r2,r3,r4⟩:=hrp
     have a1:=hrt.na
     have a2:=hrt.ma
     have a3:=hrt.nb
     have a4:=hrt.mb
     have q5:0<=a*p.2.2/\a*p.2.2<=71400*71400:=⟨Int.mul_nonneg a1 (by omega),Int.mul_le_mul a2 r4 (by omega) (by decide)⟩
     have q6:0<=p.2.1*b/\p.2.1*b<=71400*71400:=⟨Int.mul_nonneg r1 (by omega),Int.mul_le_mul r2 a4 (by omega) (by decide)⟩
     have hcm:=PU (a,b) p.2 (by show I64 (a*p.2.2);unfold I64;omega) (by show I64 (p.2.1*b);unfold I64;omega)
     have hcv:Cj ((a,b).1*p.2.2) (p.2.1*(a,b).2)<0↔a*p.2.2<p.2.1*b:=by
      show Cj (a*p.2.2) (p.2.1*b)<0↔_
      unfold Cj
      split
      ·simp;omega
      ·split<;>simp<;>omega
     generalize Cj ((a,b).1*p.2.2) (p.2.1*(a,b).2)=cv at hcm hcv
     dsimp only [bmR,bmT] at hcm ⊢
     simp only [Option.isSome_some]
     ((try refine Or.inl ?_);refine ⟨_,(hex),.inl rfl,?_⟩;refine amC ?_)
     refine ah ?_
     ((try refine Or.inl ?_);refine ⟨_,(hcm),.inl rfl,?_⟩;refine amC ?_)
     refine ah ?_
     refine aj amQ (fun hs =>?_) (fun hs =>?_)
     ·have hs:cv<0:=by simpa using hs
      have hnx:bT V (i+1)=some (i,(a,b)):=by
       rw [hst,if_pos]
       ·rfl
       ·show (true && decide (a*p.2.2<p.2.1*b))=true
        rw [decide_eq_true (hcv.1 hs)]
        rfl
      refine ah ?_
      rw [hat]
      refine ah ?_
      refine ⟨i+1,by omega,by omega,.inr ⟨4,Nat.le_of_ble_eq_true rfl,aJ ?_ rfl rfl rfl⟩⟩
      rw [hnx]
      exact aV
     ·have hs:¬ cv<0:=by simpa using hs
      have hnx:bT V (i+1)=some p:=by
       rw [hst,if_neg]
       show ¬ (true && decide (a*p.2.2<p.2.1*b))=true
       rw [decide_eq_false fun h=>hs (hcv.2 h)]
       exact Bool.false_ne_true
      refine ah ?_
      refine ⟨i+1,by omega,by omega,.inr ⟨4,Nat.le_of_ble_eq_true rfl,aJ ?_ rfl rfl rfl⟩⟩
      rw [hnx]
      exact aV
  ·rw [hq] at hVi hmk
   have hVi:V i=((0,0),false):=hVi
   have hnx:bT V (i+1)=bT V i:=by show (if y5 (V i) (bT V i)=true then some (i,(V i).1) else bT V i)=bT V i;rw [if_neg];rw [hVi];cases bT V i<;>exact Bool.false_ne_true
   ((try refine Or.inl ?_);refine ⟨_,(hmk),amF,?_⟩;refine amC ?_)
   refine ah ?_
   refine aj amQ (fun hb =>?_) (fun hb =>?_)
   ·skip
    refine ah ?_
    refine ⟨i+1,by omega,by omega,.inr ⟨4,Nat.le_of_ble_eq_true rfl,aJ ?_ rfl rfl rfl⟩⟩
    rw [hnx]
    exact aV
   ·cases hb
 ·have hd:=of_decide_eq_false hd
  obtain rfl:i=eU m s:=by omega
  have hbl:(bmT m s (bT V (eU m s))).length<=4:=by
   cases bT V (eU m s) with
   | none=>exact Nat.zero_le _
   | some p=>show (dL m s p.1).length<=4;unfold dL;rw [fA];omega
  have hbr:∀ r∈bmT m s (bT V (eU m s)),r.length<=100:=fun r hr=>by
   cases hb:bT V (eU m s) with
   | none=>rw [hb] at hr;cases hr
   | some p =>
    rw [hb] at hr
    have hr:r∈dL m s p.1:=hr
    obtain ⟨q,hq,rfl⟩:=List.mem_iff_getElem.1 hr
    have hq':q<m.length:=by unfold dL at hq;rw [fA] at hq;exact hq
    have h1:=og (K:=s.length) (rX (oH hb).1) hq'
    rw [getD_in (by rw [fA];exact hq')] at h1
    have h2:(dL m s p.1)[q].length=s.length:=h1
    omega
  generalize hB:bmT m s (bT V (eU m s))=B at *
  refine ah ?_
  (refine kQ 4 3 [] rfl rfl rfl ?_;simp only [xu,simprocAttr])
  refine au (α:=Nat) (fun k=>[(18,true,.int k)]) [5,10,11,12,17] (fun k=>bsB m s (bT V (eU m s))++[.tree [29,3] (.ii (B.take k))]) (fun k=>k<=B.length) (fun k=>B.length-k) 0 (by exact aV) (Nat.zero_le _) fun k hk =>?_
  have hkl:(B.take k).length<=k:=by rw [List.length_take];omega
  simp only [List.cons_append,List.nil_append]
  simp only [xr,simprocAttr]
  refine ah ?_
  refine aj amQ (fun he =>?_) (fun he =>?_)
  ·have he:=of_decide_eq_true he
   have hk':k<B.length:=by omega
   have hbk:=hbr (B.getD k []) (by rw [getD_in hk'];exact List.getElem_mem _)
   have htk:=eH hk' []
   refine ah ?_
   refine ⟨k+1,by omega,by omega,.inr ⟨5,Nat.le_of_ble_eq_true rfl,aJ ?_ rfl rfl rfl⟩⟩
   exact bI (by rw [htk]<;>rfl)
  ·have he:=of_decide_eq_false he
   obtain rfl:k=B.length:=by omega
   rw [List.take_length]
   refine amB ?_
   (refine dU 4 rfl ?_;simp only [xz,simprocAttr])
   (refine amB ?_;refine bM 0 [(4,[1])] [1] [(4,[])] ?_;refine mg ?_)
   refine ah ?_
   rw [← hB]
   (simp only [xec,simprocAttr];refine ⟨[_,_,_],⟨rfl,⟨amK,rfl⟩,rfl,trivial⟩,rfl,Imp.eq ?_⟩)
   rfl
noncomputable def bmO (m s:List (List Int)) (x:Int):Option (Nat×(Int×Int)):=bif bn m s x [] && decide (eU m s<=300) then bT (fun j=>exB m s (dL m s j) x) (eU m s) else none
noncomputable def bmB (m s:List (List Int)) (x:Int):Bool:=(bmO m s x).isSome
noncomputable def bmV (m s:List (List Int)) (x:Int):List (List Int):=bmT m s (bmO m s x)
noncomputable def bmF (m s:List (List Int)) (x:Int):Int×Int:=bmR (bmO m s x)
theorem AL {m s:List (List Int)} {y:Nat} (h1:bn m s y []=true) (h2:eU m s<=300):bmO m s y=bT (fun j=>exB m s (dL m s j) y) (eU m s):=by
 unfold bmO
 rw [h1,decide_eq_true h2]
 rfl
theorem AB {m s:List (List Int)} {x:Int} (h:bn m s x []=false):bmO m s x=none:=by unfold bmO;rw [h];rfl
theorem G9 {m s:List (List Int)} {x:Int} (h:¬ eU m s<=300):bmO m s x=none:=by unfold bmO;rw [decide_eq_false h];cases bn m s x []<;>rfl
theorem LM {m s:List (List Int)} (hp:aO m s=false):Does Tryz.prog 75 [prA m s] (.imm (.tup [.one (.b (.val (.int .i64 0))),.one (.b (.val (.bool false)))])):=by
 refine aC Tryz.func75 rfl Tryz.ntmps75 aX (fun _ _=>by kernel_rfl) rfl (Nat.le_of_ble_eq_true rfl) ?_
 intro M0 w0
 rw [Tryz.results75]
 refine ah ?_
 ((try refine Or.inl ?_);refine ⟨_,(sS m s),.inl rfl,?_⟩;refine amC ?_)
 rw [hp]
 refine ah ?_
 refine aj amQ (fun hz =>?_) (fun hz =>?_)
 ·refine ah ?_
  (simp only [xe,simprocAttr];refine ⟨[_,_],⟨rfl,rfl,trivial⟩,rfl,Imp.eq ?_⟩)
  rfl
 ·cases hz
theorem rV (m s:List (List Int)) (x:Int):Does Tryz.prog 23 [prA m s,.int x] (.imm (bsA m s (bmO m s x))):=by
 cases hp:aO m s
 ·have ht:bn m s x []=false:=by unfold bn;rw [hp];rfl
  rw [AB ht]
  refine aC Tryz.func23 rfl Tryz.ntmps23 aX (fun _ _=>by kernel_rfl) rfl (Nat.le_of_ble_eq_true rfl) ?_
  intro M0 w0
  rw [Tryz.results23]
  refine ah ?_
  ((try refine Or.inl ?_);refine ⟨_,(LM hp),.inl rfl,?_⟩;refine amC ?_)
  refine ah ?_
  refine .inl ⟨AV.bool false,.inl rfl,?_⟩
  simp only [xr,simprocAttr]
  refine ah ?_
  refine aj amQ (fun hz =>?_) (fun hz =>?_)
  ·refine kY ?_
   (refine aU 2 rfl ?_;simp only [xz,simprocAttr])
   refine ah ?_
   (simp only [xec,simprocAttr];refine ⟨[_,_,_],⟨rfl,⟨amK,rfl⟩,rfl,trivial⟩,rfl,Imp.eq ?_⟩)
   rfl
  ·simp at hz
 ·cases ht:bn m s x []
  ·rw [AB ht]
   refine aC Tryz.func23 rfl Tryz.ntmps23 aX (fun _ _=>by kernel_rfl) rfl (Nat.le_of_ble_eq_true rfl) ?_
   intro M0 w0
   rw [Tryz.results23]
   refine ah ?_
   ((try refine Or.inl ?_);refine ⟨_,(tY hp),.inl rfl,?_⟩;refine amC ?_)
   refine ah ?_
   ((try refine Or.inl ?_);refine ⟨_,(fun _=>uF m s x []),.inl rfl,?_⟩;refine amC ?_)
   rw [ht]
   refine ah ?_
   refine aj amQ (fun hz =>?_) (fun hz =>?_)
   ·refine kY ?_
    (refine aU 2 rfl ?_;simp only [xz,simprocAttr])
    refine ah ?_
    (simp only [xec,simprocAttr];refine ⟨[_,_,_],⟨rfl,⟨amK,rfl⟩,rfl,trivial⟩,rfl,Imp.eq ?_⟩)
    rfl
   ·simp at hz
  ·obtain ⟨-,⟨y,rfl,hy⟩,-,-⟩:=iK ht
   by_cases h2:eU m s<=300
   ·rw [AL ht h2]
    exact Oo hp hy ht h2 fun _=>rfl
   ·rw [G9 h2]
    refine aC Tryz.func23 rfl Tryz.ntmps23 aX (fun _ _=>by kernel_rfl) rfl (Nat.le_of_ble_eq_true rfl) ?_
    intro M0 w0
    rw [Tryz.results23]
    refine ah ?_
    ((try refine Or.inl ?_);refine ⟨_,(tY hp),.inl rfl,?_⟩;refine amC ?_)
    refine ah ?_
    ((try refine Or.inl ?_);refine ⟨_,(fun _=>uF m s y []),.inl rfl,?_⟩;refine amC ?_)
    rw [ht]
    refine ah ?_
    refine aj amQ (fun hz =>?_) (fun hz =>?_)
    ·refine kY ?_
     (refine aU 2 rfl ?_;simp only [xz,simprocAttr])
     refine ah ?_
     (simp only [xec,simprocAttr];refine ⟨[_,_,_],⟨rfl,⟨amK,rfl⟩,rfl,trivial⟩,rfl,Imp.eq ?_⟩)
     rfl
    ·simp at hz
     omega
theorem ku (m s:List (List Int)) (x:Int):Does Tryz.prog 23 [prA m s,.int x] (.imm (.tup [.one (.b (.sl (.ii (if bmB m s x=true then bmV m s x else [])))),frT (if bmB m s x=true then bmF m s x else (0,0)),blT (bmB m s x)])):=by
 have h:=rV m s x
 unfold bmB bmV bmF
 cases ho:bmO m s x with
 | none=>rw [ho] at h;exact h
 | some p=>rw [ho] at h;exact h
theorem rQ (m s:List (List Int)) (x:Int) (hb:bmB m s x=true):bG Tryz.prog 22 [prA m s,.int x] [] [] (.tup [.one (.own 0),frT (bmF m s x),blT true]) [.tree [29,3] (.ii (bmV m s x))]:=by
 unfold bmB at hb
 unfold bmV bmF
 cases ht:bn m s x []
 ·rw [AB ht] at hb;cases hb
 ·obtain ⟨hp,⟨y,rfl,hy⟩,-,-⟩:=iK ht
  by_cases h2:eU m s<=300
  ·have h:=TA hp hy ht h2 (V:=fun j=>exB m s (dL m s j) y) fun _=>rfl
   rw [AL ht h2] at hb ⊢
   cases ho:bT (fun j=>exB m s (dL m s j) y) (eU m s) with
   | none=>rw [ho] at hb;cases hb
   | some p=>rw [ho] at h;exact h
  ·rw [G9 h2] at hb;cases hb
theorem rU (m s:List (List Int)) (x:Int) (hb:bmB m s x=true):Does Tryz.prog 22 [prA m s,.int x] (.imm (.tup [.one (.b (.sl (.ii (bmV m s x)))),frT (bmF m s x),blT true])):=nP (rQ m s x hb)
theorem rP (m s:List (List Int)) (x:Int) (hb:bmB m s x=false):Does Tryz.prog 22 [prA m s,.int x] (.imm (.tup [.one (.b (.val (.slice none 0 0))),frT (0,0),blT false])):=by
 unfold bmB at hb
 cases ht:bn m s x []
 ·skip
  refine aC Tryz.func22 rfl Tryz.ntmps22 aX (fun _ _=>by kernel_rfl) rfl (Nat.le_of_ble_eq_true rfl) ?_
  intro M0 w0
  rw [Tryz.results22]
  refine ah ?_
  ((try refine Or.inl ?_);refine ⟨_,(lC _ _ _),.inl rfl,?_⟩;refine amC ?_)
  rw [ht]
  refine ah ?_
  refine .inl ⟨AV.int 0,(fun h=>by cases h),.inl rfl,?_⟩
  simp only [xr,simprocAttr]
  refine ah ?_
  refine aj amQ (fun hz =>?_) (fun hz =>?_)
  ·refine ah ?_
   (simp only [xec,simprocAttr];refine ⟨[_,_,_],⟨rfl,⟨amK,rfl⟩,rfl,trivial⟩,rfl,Imp.eq ?_⟩)
   rfl
  ·simp at hz
 ·obtain ⟨hp,⟨y,rfl,hy⟩,-,-⟩:=iK ht
  by_cases h2:eU m s<=300
  ·have h:=TA hp hy ht h2 (V:=fun j=>exB m s (dL m s j) y) fun _=>rfl
   rw [AL ht h2] at hb
   cases ho:bT (fun j=>exB m s (dL m s j) y) (eU m s) with
   | none=>rw [ho] at h;exact nP h
   | some p=>rw [ho] at hb;cases hb
  ·skip
   refine aC Tryz.func22 rfl Tryz.ntmps22 aX (fun _ _=>by kernel_rfl) rfl (Nat.le_of_ble_eq_true rfl) ?_
   intro M0 w0
   rw [Tryz.results22]
   refine ah ?_
   ((try refine Or.inl ?_);refine ⟨_,(lC _ _ _),.inl rfl,?_⟩;refine amC ?_)
   rw [ht]
   refine ah ?_
   ((try refine Or.inl ?_);refine ⟨_,(fun _=>oL hp),.inl rfl,?_⟩;refine amC ?_)
   refine ah ?_
   refine aj amQ (fun hz =>?_) (fun hz =>?_)
   ·refine ah ?_
    (simp only [xec,simprocAttr];refine ⟨[_,_,_],⟨rfl,⟨amK,rfl⟩,rfl,trivial⟩,rfl,Imp.eq ?_⟩)
    rfl
   ·simp at hz
    omega
end Go.Proofs.YtkcelmnbfbehbaaGreat
