/- How many numbers a law's arguments hold, by their sizes. Conditions: none. -/
import Derived.Test.YtnblieajjclipaaGreatGED
set_option linter.all false
namespace Go.Proofs.YtnblieajjclipaaGreat
open Go Go.RowKit Am
theorem ZJ {M:Am.Mem} {c:Cn} {u:Value} (h0:c.len=0) (hok:c.ok) (h:(AV.val (.slice none 0 0)).rel lN M u):(AV.sl c).rel lN M u:=by
 obtain rfl:u = .slice none 0 0:=h
 exact Iw h0 hok
theorem Ro (c:List Int) (x:Int):Does Tryz.prog 130 [six c,.lf (.ip [.val (.int .i64 x)] 0)] (.imm (.bool (decide (c.getD 5 0=x)))):=by
 refine aF Tryz.func130 rfl Tryz.ntmps130 aQ (fun _ _=>by kernel_rfl) rfl (Nat.le_of_ble_eq_true rfl) ?_
 intro M0 w0
 rw [Tryz.results130]
 refine ah ?_
 refine bJ ?_
 rfl
theorem TU {m s:List (List Int)} {g:GmT} {q:List (List Int)} (hg:aU m s g) (hq:dP m s g q=true) {a r:Nat} (ha:a<g.list.length) (hr:r<s.length) :
  Does Tryz.prog 68 [.lf (.ip [.sl (.k 2 g.list),.sl (.kii 6 g.ch)] 0),.int a,.int r,.int ((q.getD a []).getD r 0)] (.imm (six (iU g q a r))):=by
 obtain ⟨k,hs⟩:=EC hg hq ha hr
 have hac:a<g.ch.length:=by rw [hg.clen];exact ha
 have hrl:=hg.c.len a hac
 have h1:=hs.at_
 have h2:=hs.lt
 have h3:=hs.eq
 have h4:rO g a r=(g.ch.getD a []).getD r []:=rfl
 have hix:idxOf (fun c=>decide (c.getD 5 0=(q.getD a []).getD r 0)) (rO g a r)=k:=hs.at_
 refine aF Tryz.func68 rfl Tryz.ntmps68 aQ (fun _ _=>by kernel_rfl) rfl (Nat.le_of_ble_eq_true rfl) ?_
 intro M0 w0
 rw [Tryz.results68]
 refine ah ?_
 rw [← h4]
 ((try refine Or.inl ?_);refine ⟨_,(Ib (rO g a r) _ [.ip [.val (.int .i64 ((q.getD a []).getD r 0))] 0] (fun c=>decide (c.getD 5 0=(q.getD a []).getD r 0)) rfl fun j hj=>Ro _ _),.inl rfl,?_⟩;refine amC ?_)
 rw [hix,Int.toNat_natCast]
 refine amS ?_
 refine ah ?_
 (simp only [xec,simprocAttr];refine ⟨_,⟨amK,rfl⟩,rfl,Imp.eq ?_⟩)
 rw [h3]
 rfl
theorem IJ {E:List (List Int)} {n:Nat} {wt:List Int->Int} (hE:vN E n):∃ r,aez E wt n (rxR wt E) r/\((r=(0,0,false)/\∃ L,oV E wt L)\/∃ v es,Wk E v es v/\es.length<=n/\0<aN wt es/\r=(aN gu es,aN dS es,true)):=by
 rcases XT (rxR wt E) n with ⟨t,ht⟩ | hn
 ·exact ⟨_,.inl ⟨t,ht,rfl⟩,.inl ⟨rfl,_,ht.pot fun s t=>BI.gs hE⟩⟩
 ·obtain ⟨v,h1,h2,h3,p,hp⟩:=hn.cyc hE fun s t=>BI.gs hE
  exact ⟨_,.inr ⟨hn,v,p,h1,h2,h3,hp,rfl⟩,.inr ⟨_,_,hp.wk,hp.len,hp.gain,rfl⟩⟩
theorem Ee (bs:List Int):Does Tryz.prog 15 [.lf (.b (.raw bs))] (.imm (.bool (decide (65536<(bs.length:Int))))):=by
 refine aF Tryz.func15 rfl Tryz.ntmps15 aQ (fun _ _=>by kernel_rfl) rfl (Nat.le_of_ble_eq_true rfl) ?_
 intro M0 w0
 rw [Tryz.results15]
 refine ah ?_
 refine bJ ?_
 rfl
theorem YA (xs:List Int):Does Tryz.prog 29 [.sl (.ints xs),.sl (.ints xs)] (.imm (.bool true)):=by
 refine aF Tryz.func29 rfl Tryz.ntmps29 aQ (fun _ _=>by kernel_rfl) rfl (Nat.le_of_ble_eq_true rfl) ?_
 intro M0 w0
 rw [Tryz.results29]
 (refine bY 0 rfl fun hf =>?_;simp only [xp,simprocAttr] at hf;simp only [xf,simprocAttr] at hf)
 refine ah ?_
 refine aj amQ (fun hc =>?_) (fun hc =>?_)
 ·simp at hc
 refine ah ?_
 refine aA (α:=Nat) (fun k=>[(5,true,.int k)]) [0,1] (fun _=>[]) (fun k=>k<=xs.length) (fun k=>xs.length-k) 0 (by exact bW) (Nat.zero_le _) fun k hk =>?_
 simp only [xr,simprocAttr]
 refine ah ?_
 refine aj amQ (fun hd =>?_) (fun hd =>?_)
 ·have hd:=of_decide_eq_true hd
  have hk':k<xs.length:=by omega
  refine ah ?_
  refine aj amQ (fun he =>?_) (fun he =>?_)
  ·simp at he
  ·refine ah ?_
   refine ⟨k+1,by omega,by omega,.inl ?_⟩
   exact bW
 ·refine ah ?_
  refine bJ ?_
  rfl
theorem ac0 {m s:List (List Int)} {x:Int} (hg:(gmQ m s x).2=false):bP Tryz.prog 22 [prA m s,.int x] [] [] (.tup [.one (.own 0),blT true]) [.row 112 (.k 2 (gmQ m s x).1.list)]:=by
 refine aZ Tryz.func22 rfl Tryz.ntmps22 aQ (fun _ _=>by kernel_rfl) rfl rfl rfl ?_
 intro M0 w0 S φ0
 rw [Tryz.results22]
 refine ah ?_
 (refine .inr (.inl (aJ [] (rW hg) rfl rfl rfl rfl trivial rfl rfl rfl rfl ?_));refine amC ?_)
 refine ah ?_
 refine aj amQ (fun hc =>?_) (fun hc =>?_)
 ·cases hc
 refine ah ?_
 (simp only [aC,aH];refine qL (vs:=[_,_]) [2] rfl ⟨rfl,trivial⟩ rfl rfl rfl rfl ⟨rfl,rfl,trivial⟩ ?_;try rfl)
theorem Y8 {m s:List (List Int)} {x:Int} (hg:(gmQ m s x).2=false):Does Tryz.prog 22 [prA m s,.int x] (.imm (.tup [.one (.b (.sl (.k 2 (gmQ m s x).1.list))),blT true])):=nG (ac0 hg)
theorem pos_0 {m s:List (List Int)} {x:Int} (hg:(gmQ m s x).2=true):Does Tryz.prog 22 [prA m s,.int x] (.imm (.tup [.one (.b (.val (.slice none 0 0))),blT false])):=by
 refine aF Tryz.func22 rfl Tryz.ntmps22 aQ (fun _ _=>by kernel_rfl) rfl (Nat.le_of_ble_eq_true rfl) ?_
 intro M0 w0
 rw [Tryz.results22]
 refine ah ?_
 (refine .inr (.inl (gJ (xX hg) rfl rfl rfl rfl rfl rfl rfl ?_));refine amC ?_)
 refine ah ?_
 refine aj amQ (fun hc =>?_) (fun hc =>?_)
 ·refine ah ?_
  (simp only [xe,simprocAttr];refine ⟨[_,_],⟨rfl,rfl,trivial⟩,rfl,Imp.eq ?_⟩)
  rfl
 ·cases hc
theorem V9 {m s:List (List Int)} {x:Int} (hg:(gmQ m s x).2=false):Does Tryz.prog 23 [prA m s,.int x] (.imm (.tup [.one (.b (.sl (.k 2 (gmQ m s x).1.list))),blT true])):=by
 have hG:=fC (gV hg)
 rw [hg] at hG
 refine aF Tryz.func23 rfl Tryz.ntmps23 aQ (fun _ _=>by kernel_rfl) rfl (Nat.le_of_ble_eq_true rfl) ?_
 intro M0 w0
 rw [Tryz.results23]
 refine ah ?_
 ((try refine Or.inl ?_);refine ⟨_,(hG),amF,?_⟩;refine amC ?_)
 refine ah ?_
 refine aj amQ (fun hc =>?_) (fun hc =>?_)
 ·cases hc
 ·refine ah ?_
  (simp only [xe,simprocAttr];refine ⟨[_,_],⟨rfl,rfl,trivial⟩,rfl,Imp.eq ?_⟩)
  rfl
theorem ZQ {m s:List (List Int)} {x:Int} (hg:(gmQ m s x).2=true):Does Tryz.prog 23 [prA m s,.int x] (.imm (.tup [.one (.b (.sl (.k 2 []))),blT false])):=by
 cases ht:bH m s x []
 ·skip
  refine aF Tryz.func23 rfl Tryz.ntmps23 aQ (fun _ _=>by kernel_rfl) rfl (Nat.le_of_ble_eq_true rfl) ?_
  intro M0 w0
  rw [Tryz.results23]
  refine ah ?_
  ((try refine Or.inl ?_);refine ⟨_,(kY ht),amF,?_⟩;refine amC ?_)
  refine ah ?_
  refine aj amQ (fun hc =>?_) (fun hc =>?_)
  ·refine jC ?_
   (refine aK 2 rfl ?_;simp only [xz,simprocAttr])
   refine ah ?_
   (simp only [xe,simprocAttr];refine ⟨[_,_],⟨rfl,rfl,trivial⟩,rfl,Imp.eq ?_⟩)
   rfl
  ·cases hc
 ·have hG:=fC ht
  rw [hg] at hG
  refine aF Tryz.func23 rfl Tryz.ntmps23 aQ (fun _ _=>by kernel_rfl) rfl (Nat.le_of_ble_eq_true rfl) ?_
  intro M0 w0
  rw [Tryz.results23]
  refine ah ?_
  ((try refine Or.inl ?_);refine ⟨_,(hG),amF,?_⟩;refine amC ?_)
  refine ah ?_
  refine aj amQ (fun hc =>?_) (fun hc =>?_)
  ·refine jC ?_
   (refine aK 2 rfl ?_;simp only [xz,simprocAttr])
   refine ah ?_
   (simp only [xe,simprocAttr];refine ⟨[_,_],⟨rfl,rfl,trivial⟩,rfl,Imp.eq ?_⟩)
   rfl
  ·cases hc
theorem yI (xs:List (List Int)) (hx:∀ x∈xs,x.length=2):Does Tryz.prog 24 [.sl (.k 2 xs),.sl (.k 2 xs)] (.imm (.bool true)):=by
 refine aF Tryz.func24 rfl Tryz.ntmps24 aQ (fun _ _=>by kernel_rfl) rfl (Nat.le_of_ble_eq_true rfl) ?_
 intro M0 w0
 rw [Tryz.results24]
 (refine bY 0 rfl fun hf =>?_;simp only [xp,simprocAttr] at hf;simp only [xf,simprocAttr] at hf)
 refine ah ?_
 refine aj amQ (fun hc =>?_) (fun hc =>?_)
 ·simp at hc
 refine ah ?_
 refine aA (α:=Nat) (fun k=>[(5,true,.int k)]) [0,1] (fun _=>[]) (fun k=>k<=xs.length) (fun k=>xs.length-k) 0 (by exact bW) (Nat.zero_le _) fun k hk =>?_
 simp only [xr,simprocAttr]
 refine ah ?_
 refine aj amQ (fun hd =>?_) (fun hd =>?_)
 ·have hd:=of_decide_eq_true hd
  have hk':k<xs.length:=by omega
  have hx2:=hx (xs.getD k []) (by rw [getD_in hk'];exact List.getElem_mem _)
  refine ah ?_
  refine aj amQ (fun he =>?_) (fun he =>?_)
  ·simp at he
  ·refine ah ?_
   refine ⟨k+1,by omega,by omega,.inl ?_⟩
   exact bW
 ·refine ah ?_
  refine bJ ?_
  rfl
theorem V4:Does Tryz.prog 24 [.val (.slice none 0 0),.sl (.k 2 [])] (.imm (.bool true)) :=
 Does.args (yI [] (fun _ h=>by cases h)) fun M us ha=>by
  obtain ⟨u,us',rfl,h1,h2⟩:=dK ha
  exact pz (ZJ (c := .k 2 []) rfl (fun _ h=>by cases h) h1) h2
end Go.Proofs.YtnblieajjclipaaGreat
