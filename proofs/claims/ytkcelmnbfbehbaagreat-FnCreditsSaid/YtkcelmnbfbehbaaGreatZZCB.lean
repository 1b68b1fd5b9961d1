/- Strategies that credits allow, on the machine. Conditions: those that each names. -/
import Derived.Test.YtkcelmnbfbehbaaGreatGCR
import Derived.Test.YtkcelmnbfbehbaaGreatPR
set_option linter.all false
namespace Go.Proofs.YtkcelmnbfbehbaaGreat
open Go Go.RowKit Am
abbrev OQ (xs:List (List Int)):Ob := .tree [29,3] (.ii xs)
def lS (a:Int×Int) (tab:List Int) (i:Nat) (rows:List (List (List Int))):List Int:=rows.map (lU a tab i)
def csM (g:GmT) (a:Int×Int) (tab:List Int):List (List Int):=(List.range g.ch.length).map fun i=>lS a tab i (g.ch.getD i [])
theorem J8 {g:GmT} {a:Int×Int} {tab:List Int} {i:Nat} (h:i<g.ch.length):(csM g a tab).take (i+1)=(csM g a tab).take i++[lS a tab i (g.ch.getD i [])]:=by
 have hl:i<(csM g a tab).length:=by simp [csM];omega
 rw [bD hl [],getD_in hl]
 simp [csM]
theorem DC {a:Int×Int} {tab:List Int} {i r:Nat} {rows:List (List (List Int))} (h:r<rows.length):lS a tab i (rows.take (r+1))=lS a tab i (rows.take r)++[lU a tab i (rows.getD r [])]:=by
 unfold lS
 rw [bD h [],List.map_append]
 rfl
def csV (m s:List (List Int)) (x:Int) (a:Int×Int) (tab:List Int):List (List Int):=csM (gmQ m s x).1 a tab
theorem uD {m s:List (List Int)} {x:Int} {a:Int×Int} {tab:List Int} (h:jC m s x a tab=true):(gmQ m s x).2=false/\iD a=true/\gU (gmQ m s x).1 a.1 a.2 tab=true:=by
 unfold jC at h
 rw [Bool.and_eq_true] at h
 obtain ⟨h1,h2⟩:=h
 obtain ⟨h3,h4⟩:=V7 h1
 exact ⟨h3,h4,h2⟩
theorem MZ {a:Int×Int} {tab:List Int} {i:Nat} {c:List Int} (h:H7 a tab i c):Does Tryz.prog 42 [six c,.lf (.ip [.val (.int .i64 a.1),.val (.int .i64 a.2)] 0),.lf (.ip [.sl (.ints tab)] 0)] (.imm (.bool (dP a.1 a.2 tab i c))):=by
 refine aF Tryz.func42 rfl Tryz.ntmps42 aP (fun _ _=>by kernel_rfl) rfl (Nat.le_of_ble_eq_true rfl) ?_
 intro M0 w0
 rw [Tryz.results42]
 refine ah ?_
 ((try refine Or.inl ?_);refine ⟨_,(JJ h),.inl rfl,?_⟩;refine amC ?_)
 refine ah ?_
 refine bI ?_
 rfl
theorem JH {a:Int×Int} {tab:List Int} {i:Nat} {row:List (List Int)} (h:row.any (dP a.1 a.2 tab i)=true):∃ k:Nat,idxOf (dP a.1 a.2 tab i) row=k/\k<row.length/\lU a tab i row=(row.getD k []).getD 5 0:=by
 rw [← jy,decide_eq_true_eq] at h
 obtain ⟨k,hk,e,-⟩:=nG h
 refine ⟨k,e,hk,?_⟩
 have e:idxOf (dP a.1 a.2 tab i) row=k:=e
 unfold lU
 rw [e,if_neg (by omega),Int.toNat_natCast]
theorem YZ {m s:List (List Int)} {x:Int} {a:Int×Int} {tab:List Int} (h:jC m s x a tab=false) (h1:(gmQ m s x).2=false):(bif !iD a then true else !gU (gmQ m s x).1 a.1 a.2 tab)=true:=by
 unfold jC okB at h
 rw [h1] at h
 revert h
 cases iD a<;>cases gU (gmQ m s x).1 a.1 a.2 tab<;>decide
set_option maxHeartbeats 2000000 in
theorem rY (m s:List (List Int)) (x:Int) (a:Int×Int) (tab:List Int) (hb:jC m s x a tab=true):bJ Tryz.prog 9 [prA m s,.int x,frA a,.sl (.ints tab)] [] [] (.tup [.one (.own 0),bT true]) [OQ (csV m s x a tab)]:=by
 obtain ⟨h1,h2,h3⟩:=uD hb
 have hg:=dS h1
 refine aU Tryz.func9 rfl Tryz.ntmps9 aP (fun _ _=>by kernel_rfl) rfl rfl rfl ?_
 intro M0 w0 S φ0
 rw [Tryz.results9]
 refine ah ?_
 (refine .inr (.inl (aJ [] (kW h1) rfl rfl rfl rfl trivial rfl rfl rfl rfl ?_));refine amC ?_)
 rw [show csV m s x a tab=csM (gmQ m s x).1 a tab from rfl]
 generalize (gmQ m s x).1=g at hg h3
 have hle:=hg.le
 have hcl:=hg.clen
 obtain ⟨ht,hal⟩:=iQ.1 h3
 have ht:tbB g.list.length tab=true:=ht
 refine ah ?_
 ((try refine Or.inl ?_);refine ⟨_,(ql a),.inl rfl,?_⟩;refine amC ?_)
 rw [h2]
 refine ah ?_
 ((try refine Or.inl ?_);refine ⟨_,(fun _=>wJ hg h2 tab),.inl rfl,?_⟩;refine amC ?_)
 rw [h3]
 refine ah ?_
 refine aj amQ (fun hc =>?_) (fun hc =>?_)
 ·cases hc
 refine ah ?_
 (refine qJ 6 3 [] rfl rfl rfl ?_;simp only [xu,simprocAttr])
 refine aA (α:=Nat) (fun i=>[(45,true,.int i)]) [6,7,12,43,44] (fun i=>[.box [.b (.sl (.ii m)),.b (.sl (.ii s))],.box [.b (.val (.int .i64 a.1)),.b (.val (.int .i64 a.2))],.box [.b (.sl (.ints tab))],.box [.own 4,.own 5],.row 145 (.k 2 g.list),.row 82 (.kii 6 g.ch),OQ ((csM g a tab).take i)]) (fun i=>i<=g.ch.length) (fun i=>g.ch.length-i) 0 (by exact bV (by simp)) (Nat.zero_le _) fun i hi =>?_
 have hpl:((csM g a tab).take i).length=i:=by simp [csM];omega
 simp only [xr,simprocAttr]
 refine ah ?_
 refine aj amQ (fun hd =>?_) (fun hd =>?_)
 ·have hd:=of_decide_eq_true hd
  have hi':i<g.ch.length:=by omega
  have hrl:=hg.c.len i hi'
  have hpl4:=bC hg.prob
  refine ah ?_
  refine aA (α:=Nat) (fun r=>[(52,true,.int r)]) [6,7,12,14,15,43,44,45,50,51] (fun r=>[.box [.b (.sl (.ii m)),.b (.sl (.ii s))],.box [.b (.val (.int .i64 a.1)),.b (.val (.int .i64 a.2))],.box [.b (.sl (.ints tab))],.box [.own 4,.own 5],.row 145 (.k 2 g.list),.row 82 (.kii 6 g.ch),OQ ((csM g a tab).take i),.row 3 (.ints (lS a tab i ((g.ch.getD i []).take r)))]) (fun r=>r<=(g.ch.getD i []).length) (fun r=>(g.ch.getD i []).length-r) 0 (by exact bV (by simp [lS])) (Nat.zero_le _) fun r hr =>?_
  have hrl2:(lS a tab i ((g.ch.getD i []).take r)).length=r:=by rw [lS,List.length_map,List.length_take];omega
  simp only [xr,simprocAttr]
  refine ah ?_
  refine aj amQ (fun he =>?_) (fun he =>?_)
  ·have he:=of_decide_eq_true he
   have hr':r<(g.ch.getD i []).length:=by omega
   obtain ⟨hok,hil,hrs⟩:=Je hg hi' hr'
   obtain ⟨k,hk1,hk2,hk3⟩:=JH (hal i hi' r hr')
   refine ah ?_
   ((try refine Or.inl ?_);refine ⟨_,(qQ ((g.ch.getD i []).getD r []) _ [.ip [.val (.int .i64 a.1),.val (.int .i64 a.2)] 0,.ip [.sl (.ints tab)] 0] (dP a.1 a.2 tab i) rfl fun j hj=>MZ (Ie (Bc hok hj) h2 ht hil)),.inl rfl,?_⟩;refine amC ?_)
   rw [hk1]
   refine ah ?_
   refine ⟨r+1,by omega,by omega,.inl ?_⟩
   exact bV (by rw [DC hr',hk3];try rfl)
  ·have he:=of_decide_eq_false he
   have hr':r=(g.ch.getD i []).length:=by omega
   subst hr'
   rw [List.take_length]
   refine ah ?_
   refine ⟨i+1,by omega,by omega,.inr ⟨7,Nat.le_of_ble_eq_true rfl,aS ?_ rfl rfl rfl⟩⟩
   exact bV (by rw [J8 hi'];try rfl)
 ·have hd:=of_decide_eq_false hd
  have hi':i=g.ch.length:=by omega
  subst hi'
  rw [List.take_of_length_le (by simp [csM])]
  refine ah ?_
  (simp only [aB,aH];refine nU (vs:=[_,_]) [6] rfl ⟨rfl,trivial⟩ rfl rfl rfl rfl ⟨rfl,rfl,trivial⟩ ?_;try rfl)
theorem rZ (m s:List (List Int)) (x:Int) (a:Int×Int) (tab:List Int) (hb:jC m s x a tab=true):Does Tryz.prog 9 [prA m s,.int x,frA a,.sl (.ints tab)] (.imm (.tup [.one (.b (.sl (.ii (csV m s x a tab)))),bT true])):=pq (rY m s x a tab hb)
theorem rX (m s:List (List Int)) (x:Int) (a:Int×Int) (tab:List Int) (hb:jC m s x a tab=false):Does Tryz.prog 9 [prA m s,.int x,frA a,.sl (.ints tab)] (.imm (.tup [.one (.b (.val (.slice none 0 0))),bT false])):=by
 refine aF Tryz.func9 rfl Tryz.ntmps9 aP (fun _ _=>by kernel_rfl) rfl (Nat.le_of_ble_eq_true rfl) ?_
 intro M0 w0
 rw [Tryz.results9]
 refine ah ?_
 cases h1:(gmQ m s x).2
 ·have hn:=YZ hb h1
  have hg:=dS h1
  (refine .inr (.inl (aJ [] (kW h1) rfl rfl rfl rfl trivial rfl rfl rfl rfl ?_));refine amC ?_)
  refine ah ?_
  ((try refine Or.inl ?_);refine ⟨_,(ql a),.inl rfl,?_⟩;refine amC ?_)
  refine ah ?_
  ((try refine Or.inl ?_);refine ⟨_,(fun h=>wJ hg (by simpa using h) tab),.inl rfl,?_⟩;refine amC ?_)
  refine ah ?_
  refine aj amQ (fun hc =>?_) (fun hc =>?_)
  ·refine ah ?_
   (simp only [xe,simprocAttr];refine ⟨[_,_],⟨rfl,rfl,trivial⟩,rfl,Imp.eq ?_⟩)
   rfl
  ·have hx:=hn.symm.trans hc
   cases hx
 ·(refine .inr (.inl (fC (sU h1) rfl rfl rfl rfl rfl rfl rfl ?_));refine amC ?_)
  refine ah ?_
  refine .inl ⟨.bool false,.inl rfl,?_⟩
  simp only [xr,simprocAttr]
  refine amS ?_
  refine ah ?_
  refine .inl ⟨.bool false,.inl rfl,?_⟩
  simp only [xr,simprocAttr]
  refine amS ?_
  refine ah ?_
  refine aj amQ (fun hc =>?_) (fun hc =>?_)
  ·refine ah ?_
   (simp only [xe,simprocAttr];refine ⟨[_,_],⟨rfl,rfl,trivial⟩,rfl,Imp.eq ?_⟩)
   rfl
  ·cases hc
set_option maxHeartbeats 2000000 in
theorem jR (m s:List (List Int)) (x:Int) (a:Int×Int) (tab:List Int):Does Tryz.prog 10 [prA m s,.int x,frA a,.sl (.ints tab)] (.imm (.tup [.one (.b (.sl (.ii (if jC m s x a tab then csV m s x a tab else [])))),bT (jC m s x a tab)])):=by
 refine aF Tryz.func10 rfl Tryz.ntmps10 aP (fun _ _=>by kernel_rfl) rfl (Nat.le_of_ble_eq_true rfl) ?_
 intro M0 w0
 rw [Tryz.results10]
 refine ah ?_
 cases h1:(gmQ m s x).2
 ·have hg:=dS h1
  have ht:=iJ h1
  ((try refine Or.inl ?_);refine ⟨_,(gG ht),amF,?_⟩;refine amC ?_)
  rw [h1]
  refine ah ?_
  ((try refine Or.inl ?_);refine ⟨_,(zX a),.inl rfl,?_⟩;refine amC ?_)
  refine ah ?_
  ((try refine Or.inl ?_);refine ⟨_,(fun h=>Bj hg _ (by simpa using h) tab),.inl rfl,?_⟩;refine amC ?_)
  refine ah ?_
  cases hb:jC m s x a tab
  ·have hn:=YZ hb h1
   refine aj amQ (fun hc =>?_) (fun hc =>?_)
   ·refine jd ?_
    (refine aN 2 rfl ?_;simp only [xz,simprocAttr])
    refine ah ?_
    (simp only [xe,simprocAttr];refine ⟨[_,_],⟨rfl,rfl,trivial⟩,rfl,Imp.eq ?_⟩)
    rfl
   ·have hx:=hn.symm.trans hc
    cases hx
  ·obtain ⟨-,h2,h3⟩:=uD hb
   rw [h2,h3,show csV m s x a tab=csM (gmQ m s x).1 a tab from rfl]
   generalize (gmQ m s x).1=g at hg h3
   have hle:=hg.le
   have hcl:=hg.clen
   obtain ⟨ht,hal⟩:=iQ.1 h3
   have ht:tbB g.list.length tab=true:=ht
   have hl4:(ch4 g.ch).length=g.ch.length:=by simp [ch4]
   refine aj amQ (fun hc =>?_) (fun hc =>?_)
   ·cases hc
   refine ah ?_
   refine aA (α:=Nat) (fun i=>[(13,true,.int i)]) [3,6,10,11] (fun i=>[.box [.b (.sl (.ii m)),.b (.sl (.ii s))],.box [.b (.val (.int .i64 a.1)),.b (.val (.int .i64 a.2))],.row 29 (.ii ((csM g a tab).take i)),.box [.b (.sl (.k 2 g.list)),.b (.sl (.kii 4 (ch4 g.ch))),.b (.val (.bool false))]]) (fun i=>i<=g.ch.length) (fun i=>g.ch.length-i) 0 (by exact bV (by simp)) (Nat.zero_le _) fun i hi =>?_
   have hpl:((csM g a tab).take i).length=i:=by simp [csM];omega
   simp only [xr,simprocAttr]
   refine ah ?_
   refine aj amQ (fun hd =>?_) (fun hd =>?_)
   ·have hd:=of_decide_eq_true hd
    have hi':i<g.ch.length:=by omega
    have hrl:=hg.c.len i hi'
    have hpl4:=bC hg.prob
    have h4:=jV hi'
    have h4l:((ch4 g.ch).getD i []).length=(g.ch.getD i []).length:=by rw [h4,List.length_map]
    refine ah ?_
    refine aA (α:=Nat) (fun r=>[(15,true,.int r)]) [3,6,10,11,13,14] (fun r=>[.box [.b (.sl (.ii m)),.b (.sl (.ii s))],.box [.b (.val (.int .i64 a.1)),.b (.val (.int .i64 a.2))],.row 29 (.ii ((csM g a tab).take i)),.box [.b (.sl (.k 2 g.list)),.b (.sl (.kii 4 (ch4 g.ch))),.b (.val (.bool false))],.row 3 (.ints (lS a tab i ((g.ch.getD i []).take r)))]) (fun r=>r<=(g.ch.getD i []).length) (fun r=>(g.ch.getD i []).length-r) 0 (by exact bV (by simp [lS])) (Nat.zero_le _) fun r hr =>?_
    have hrl2:(lS a tab i ((g.ch.getD i []).take r)).length=r:=by rw [lS,List.length_map,List.length_take];omega
    simp only [xr,simprocAttr]
    refine ah ?_
    refine aj amQ (fun he =>?_) (fun he =>?_)
    ·have he:=of_decide_eq_true he
     have hr':r<(g.ch.getD i []).length:=by omega
     refine ah ?_
     ((try refine Or.inl ?_);refine ⟨_,(yC hg _ h2 ht hi' hr'),.inl rfl,?_⟩;refine amC ?_)
     refine ah ?_
     refine ⟨r+1,by omega,by omega,.inl ?_⟩
     exact bV (by rw [DC hr'];try rfl)
    ·have he:=of_decide_eq_false he
     have hr':r=(g.ch.getD i []).length:=by omega
     subst hr'
     rw [List.take_length]
     (refine aN 4 rfl ?_;simp only [xz,simprocAttr])
     refine ah ?_
     refine ⟨i+1,by omega,by omega,.inr ⟨4,Nat.le_of_ble_eq_true rfl,aS ?_ rfl rfl rfl⟩⟩
     exact bV (by rw [J8 hi'];try rfl)
   ·have hd:=of_decide_eq_false hd
    have hi':i=g.ch.length:=by omega
    subst hi'
    rw [List.take_of_length_le (by simp [csM])]
    refine jd ?_
    (refine aN 2 rfl ?_;simp only [xz,simprocAttr])
    refine ah ?_
    (simp only [xe,simprocAttr];refine ⟨[_,_],⟨rfl,rfl,trivial⟩,rfl,Imp.eq ?_⟩)
    rfl
 ·have hb:jC m s x a tab=false:=by unfold jC okB;rw [h1];rfl
  rw [hb]
  cases ht:bH m s x []
  ·((try refine Or.inl ?_);refine ⟨_,(nK ht),amF,?_⟩;refine amC ?_)
   refine ah ?_
   refine .inl ⟨.bool false,.inl rfl,?_⟩
   simp only [xr,simprocAttr]
   refine amS ?_
   refine ah ?_
   refine .inl ⟨.bool false,.inl rfl,?_⟩
   simp only [xr,simprocAttr]
   refine amS ?_
   refine ah ?_
   refine aj amQ (fun hc =>?_) (fun hc =>?_)
   ·refine jd ?_
    (refine aN 2 rfl ?_;simp only [xz,simprocAttr])
    refine ah ?_
    (simp only [xe,simprocAttr];refine ⟨[_,_],⟨rfl,rfl,trivial⟩,rfl,Imp.eq ?_⟩)
    rfl
   ·cases hc
  ·((try refine Or.inl ?_);refine ⟨_,(gG ht),amF,?_⟩;refine amC ?_)
   rw [h1]
   refine ah ?_
   refine .inl ⟨.bool false,.inl rfl,?_⟩
   simp only [xr,simprocAttr]
   refine amS ?_
   refine ah ?_
   refine .inl ⟨.bool false,.inl rfl,?_⟩
   simp only [xr,simprocAttr]
   refine amS ?_
   refine ah ?_
   refine aj amQ (fun hc =>?_) (fun hc =>?_)
   ·refine jd ?_
    (refine aN 2 rfl ?_;simp only [xz,simprocAttr])
    refine ah ?_
    (simp only [xe,simprocAttr];refine ⟨[_,_],⟨rfl,rfl,trivial⟩,rfl,Imp.eq ?_⟩)
    rfl
   ·cases hc
structure acI (E:List (List Int)) (K N:Nat):Prop where
 len:E.length=N*K
 n:N<=1000
 k:1<=K/\K<=10
 to:∀ c∈E,0<=c.getD 1 0/\c.getD 1 0<(N:Int)
theorem acI.at {E:List (List Int)} {K N:Nat} (h:acI E K N) {i r:Nat} (hi:i<N) (hr:r<K):i*K+r<E.length/\i*K<=10000:=by
 have h1:=Nat.mul_le_mul_right K (show i+1<=N by omega)
 rw [Nat.succ_mul] at h1
 have h2:i*K<=1000*10:=Nat.mul_le_mul (by have:=h.n;omega) h.k.2
 rw [h.len]
 omega
def toE (E:List (List Int)) (K p r:Nat):Nat:=((E.getD (p*K+r) []).getD 1 0).toNat
end Go.Proofs.YtkcelmnbfbehbaaGreat
