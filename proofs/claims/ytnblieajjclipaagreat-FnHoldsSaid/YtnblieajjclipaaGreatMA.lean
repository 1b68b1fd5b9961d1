/- Values without addresses, and what they stand for in memory. No program is named here. Conditions: none. -/
import Derived.WalkKit
import Derived.ProofKit
import Derived.BigQuiet
import Derived.Maps.AppendAt
set_option linter.all false
namespace Go.Proofs.YtnblieajjclipaaGreat
namespace Am
open Go
abbrev Mem:=Addr->Option Value
def Mem.le (M M':Mem):Prop:=∀ a v,M a=some v->M' a=some v
theorem Mem.le_refl (M:Mem):M.le M:=fun _ _ h=>h
theorem Mem.le_trans {M M' M'':Mem} (h:M.le M') (k:M'.le M''):M.le M'':=fun a v e=>k a v (h a v e)
def RdM (M:Mem) (A:Option Addr) (vs:List Value):Prop:=vs≠[]->∃ ad,A=some ad/\∀ j (h:j<vs.length),M (ad.add j)=some vs[j]
def ShM (M:Mem) (u:Value) (n:Nat) (vs:List Value):Prop:=∃ A c,u = .slice A n c/\n<=c/\c<=9223372036854775807/\RdM M A vs
def CG (R:Nat->Nat->Value->Prop) (n w:Nat) (vs:List Value):Prop:=vs.length=n*w/\∀ j o,j<n->o<w->∃ u,vs[j*w+o]? = some u/\R j o u
theorem RdM.mono {M M':Mem} {A:Option Addr} {vs:List Value} (h:RdM M A vs) (hm:M.le M'):RdM M' A vs:=fun hn=>by
 obtain ⟨ad,e,hc⟩:=h hn
 exact ⟨ad,e,fun j hj=>hm _ _ (hc j hj)⟩
theorem ShM.mono {M M':Mem} {u:Value} {n:Nat} {vs:List Value} (h:ShM M u n vs) (hm:M.le M'):ShM M' u n vs:=by
 obtain ⟨A,c,e,h1,h2,h3⟩:=h
 exact ⟨A,c,e,h1,h2,h3.mono hm⟩
theorem CG.mono {R R':Nat->Nat->Value->Prop} {n w:Nat} {vs:List Value} (h:CG R n w vs) (hr:∀ j o u,R j o u->R' j o u):CG R' n w vs :=
 ⟨h.1,fun j o hj ho=>by obtain ⟨u,e,hu⟩:=h.2 j o hj ho;exact ⟨u,e,hr _ _ _ hu⟩⟩
def SI (M:Mem) (u:Value) (xs:List Int):Prop:=∃ vs,ShM M u xs.length vs/\CG (fun j _ u=>u = .int .i64 (xs.getD j 0)) xs.length 1 vs
def SK (n:Nat) (M:Mem) (u:Value) (xs:List (List Int)):Prop:=(∀ x∈xs,x.length=n)/\∃ vs,ShM M u xs.length vs/\CG (fun j o u=>u = .int .i64 ((xs.getD j []).getD o 0)) xs.length n vs
def SO {α:Type} (R:Mem->Value->List α->Prop) (M:Mem) (u:Value) (xs:List (List α)):Prop:=∃ vs,ShM M u xs.length vs/\CG (fun j _ u=>R M u (xs.getD j [])) xs.length 1 vs
def SB (M:Mem) (u:Value) (xs:List Int):Prop:=∃ vs,ShM M u xs.length vs/\CG (fun j _ u=>u = .int .u8 (xs.getD j 0)) xs.length 1 vs
def SNl (M:Mem) (u:Value) (n:Nat):Prop:=∃ vs,ShM M u n vs/\CG (fun _ _ u=>u = .slice none 0 0) n 1 vs
def SBo (M:Mem) (u:Value) (xs:List Bool):Prop:=∃ vs,ShM M u xs.length vs/\CG (fun j _ u=>u = .bool (xs.getD j false)) xs.length 1 vs
def wkV (x:Bool×Int×Int):Nat->Value
 | 0 => .bool x.1
 | 1 => .int .i64 x.2.1
 | _+2 => .int .i64 x.2.2
theorem Ze (x:Bool×Int×Int):wkV x 0 = .bool x.1:=rfl
theorem Zf (x:Bool×Int×Int):wkV x 1 = .int .i64 x.2.1:=rfl
theorem Zg (x:Bool×Int×Int):wkV x 2 = .int .i64 x.2.2:=rfl
def SWk (M:Mem) (u:Value) (xs:List (Bool×Int×Int)):Prop:=∃ vs,ShM M u xs.length vs/\CG (fun j o u=>u=wkV (xs.getD j (false,0,0)) o) xs.length 3 vs
abbrev SII:=SO SI
abbrev Zj:=SO SII
abbrev SKI (n:Nat):=SO (SK n)
abbrev Zk (n:Nat):=SO (SKI n)
theorem SI.mono {M M':Mem} {u:Value} {xs:List Int} (h:SI M u xs) (hm:M.le M'):SI M' u xs:=by
 obtain ⟨vs,h1,h2⟩:=h
 exact ⟨vs,h1.mono hm,h2⟩
theorem SB.mono {M M':Mem} {u:Value} {xs:List Int} (h:SB M u xs) (hm:M.le M'):SB M' u xs:=by
 obtain ⟨vs,h1,h2⟩:=h
 exact ⟨vs,h1.mono hm,h2⟩
theorem SNl.mono {M M':Mem} {u:Value} {n:Nat} (h:SNl M u n) (hm:M.le M'):SNl M' u n:=by
 obtain ⟨vs,h1,h2⟩:=h
 exact ⟨vs,h1.mono hm,h2⟩
theorem SBo.mono {M M':Mem} {u:Value} {xs:List Bool} (h:SBo M u xs) (hm:M.le M'):SBo M' u xs:=by
 obtain ⟨vs,h1,h2⟩:=h
 exact ⟨vs,h1.mono hm,h2⟩
theorem SWk.mono {M M':Mem} {u:Value} {xs:List (Bool×Int×Int)} (h:SWk M u xs) (hm:M.le M'):SWk M' u xs:=by
 obtain ⟨vs,h1,h2⟩:=h
 exact ⟨vs,h1.mono hm,h2⟩
theorem SK.mono {n:Nat} {M M':Mem} {u:Value} {xs:List (List Int)} (h:SK n M u xs) (hm:M.le M'):SK n M' u xs:=by
 obtain ⟨h0,vs,h1,h2⟩:=h
 exact ⟨h0,vs,h1.mono hm,h2⟩
theorem SO.mono {α:Type} {R:Mem->Value->List α->Prop} (hR:∀ {M M':Mem} {u:Value} {x:List α},R M u x->M.le M'->R M' u x) {M M':Mem} {u:Value} {xs:List (List α)} (h:SO R M u xs) (hm:M.le M'):SO R M' u xs:=by
 obtain ⟨vs,h1,h2⟩:=h
 exact ⟨vs,h1.mono hm,h2.mono fun _ _ _ h=>hR h hm⟩
inductive Cn
 | ints (xs:List Int)
 | ii (xs:List (List Int))
 | iii (xs:List (List (List Int)))
 | k (n:Nat) (xs:List (List Int))
 | ki (n:Nat) (xs:List (List (List Int)))
 | kii (n:Nat) (xs:List (List (List (List Int))))
 | bo (xs:List Bool)
 | bbo (xs:List (List Bool))
 | nl (n:Nat)
 | wk (xs:List (Bool×Int×Int))
def Cn.len:Cn->Nat
 | .ints xs=>xs.length
 | .ii xs=>xs.length
 | .iii xs=>xs.length
 | .k _ xs=>xs.length
 | .ki _ xs=>xs.length
 | .kii _ xs=>xs.length
 | .bo xs=>xs.length
 | .bbo xs=>xs.length
 | .nl n=>n
 | .wk xs=>xs.length
def Cn.w:Cn->Nat
 | .k n _=>n
 | .wk _=>3
 | _=>1
inductive B
 | val (v:Value)
 | sl (c:Cn)
 | raw (bs:List Int)
 | fn (f:Nat) (cs:List (List Int))
 | bm (f:Nat) (ms:List (List (List Int)))
def B.int (n:Int):B := .val (.int .i64 n)
def B.rel (M:Mem):B->Value->Prop
 | .val v,u=>u=v
 | .sl (.ints xs),u=>SI M u xs
 | .sl (.ii xs),u=>SII M u xs
 | .sl (.iii xs),u=>Zj M u xs
 | .sl (.k n xs),u=>SK n M u xs
 | .sl (.ki n xs),u=>SKI n M u xs
 | .sl (.kii n xs),u=>Zk n M u xs
 | .sl (.bo xs),u=>SBo M u xs
 | .sl (.bbo xs),u=>SO SBo M u xs
 | .sl (.nl n),u=>SNl M u n
 | .sl (.wk xs),u=>SWk M u xs
 | .raw bs,u=>SB M u bs
 | .fn f cs,u=>∃ us:List Value,u = .func (.func f) #[] us.toArray/\us.length=cs.length/\∀ j (h:j<cs.length) (h':j<us.length),∃ ad,us[j] = .pointer (some ad)/\∀ t (_:t<cs[j].length),M (ad.add t)=some (.int .i64 cs[j][t])
 | .bm f ms,u=>∃ us:List Value,u = .func (.func f) #[.agg us.toArray] #[]/\us.length=ms.length/\∀ j (h:j<ms.length) (h':j<us.length),SII M us[j] ms[j]
def Cn.ok:Cn->Prop
 | .k n xs=>∀ x∈xs,x.length=n
 | _=>True
def Cn.cell:Cn->Nat->Nat->B
 | .ints xs,j,_ => .val (.int .i64 (xs.getD j 0))
 | .ii xs,j,_ => .sl (.ints (xs.getD j []))
 | .iii xs,j,_ => .sl (.ii (xs.getD j []))
 | .k _ xs,j,o => .val (.int .i64 ((xs.getD j []).getD o 0))
 | .ki n xs,j,_ => .sl (.k n (xs.getD j []))
 | .kii n xs,j,_ => .sl (.ki n (xs.getD j []))
 | .bo xs,j,_ => .val (.bool (xs.getD j false))
 | .bbo xs,j,_ => .sl (.bo (xs.getD j []))
 | .nl _,_,_ => .val (.slice none 0 0)
 | .wk xs,j,o => .val (wkV (xs.getD j (false,0,0)) o)
def Cn.rel (M:Mem) (c:Cn) (vs:List Value):Prop:=c.ok/\CG (fun j o u=>(c.cell j o).rel M u) c.len c.w vs
theorem B.jB {M:Mem} {c:Cn} {u:Value}:(B.sl c).rel M u↔∃ vs,ShM M u c.len vs/\c.rel M vs:=by
 cases c<;>simp only [B.rel,Cn.rel,Cn.ok,Cn.len,Cn.w,Cn.cell,true_and]
 all_goals first
  | exact Iff.rfl
  | exact ⟨fun ⟨h0,vs,h1,h2⟩=>⟨vs,h1,h0,h2⟩,fun ⟨vs,h1,h0,h2⟩=>⟨h0,vs,h1,h2⟩⟩
theorem B.aX {M M':Mem} (hm:M.le M') {x:B} {u:Value} (h:x.rel M u):x.rel M' u:=by
 cases x with
 | val v=>exact h
 | raw bs=>exact SB.mono h hm
 | fn f cs=>obtain ⟨us,e,h1,h2⟩:=h;exact ⟨us,e,h1,fun j hj hj'=>by obtain ⟨ad,e1,h3⟩:=h2 j hj hj';exact ⟨ad,e1,fun t ht=>hm _ _ (h3 t ht)⟩⟩
 | bm f ms=>obtain ⟨us,e,h1,h2⟩:=h;exact ⟨us,e,h1,fun j hj hj'=>SO.mono (R:=SI) (fun h hm=>SI.mono h hm) (h2 j hj hj') hm⟩
 | sl c =>
  cases c with
  | ints xs=>exact SI.mono h hm
  | ii xs=>exact SO.mono (R:=SI) (fun h hm=>SI.mono h hm) h hm
  | iii xs=>exact SO.mono (R:=SII) (fun h hm=>SO.mono (R:=SI) (fun h hm=>SI.mono h hm) h hm) h hm
  | k n xs=>exact SK.mono h hm
  | ki n xs=>exact SO.mono (R:=SK n) (fun h hm=>SK.mono h hm) h hm
  | kii n xs=>exact SO.mono (R:=SKI n) (fun h hm=>SO.mono (R:=SK n) (fun h hm=>SK.mono h hm) h hm) h hm
  | bo xs=>exact SBo.mono h hm
  | bbo xs=>exact SO.mono (R:=SBo) (fun h hm=>SBo.mono h hm) h hm
  | nl n=>exact SNl.mono h hm
  | wk xs=>exact SWk.mono h hm
theorem Cn.aX {M M':Mem} (hm:M.le M') {c:Cn} {vs:List Value} (h:c.rel M vs):c.rel M' vs:=⟨h.1,h.2.mono fun _ _ _ h=>B.aX hm h⟩
inductive Lf
 | und
 | b (x:B)
 | own (i:Nat)
 | ptr (i o:Nat)
 | ea (c:Cn) (j o:Nat)
 | oa (i w j o:Nat)
 | ip (xs:List B) (o:Nat)
inductive TV
 | one (x:Lf)
 | agg (xs:List Lf)
inductive AV
 | tv (x:TV)
 | clo (f:Nat) (xs:List Lf)
 | tup (xs:List TV)
abbrev AV.lf (x:Lf):AV := .tv (.one x)
abbrev AV.val (v:Value):AV := .tv (.one (.b (.val v)))
abbrev AV.int (n:Int):AV := .tv (.one (.b (.val (.int .i64 n))))
abbrev AV.bool (b:Bool):AV := .tv (.one (.b (.val (.bool b))))
abbrev AV.sl (c:Cn):AV := .tv (.one (.b (.sl c)))
abbrev AV.und:AV := .tv (.one .und)
def G9 (M:Mem) (ad:Addr) (xs:List B):Prop:=∀ t (h:t<xs.length),∃ u,M (ad.add t)=some u/\xs[t].rel M u
def Lf.rel (φ:Nat->Value) (M:Mem):Lf->Value->Prop
 | .und,_=>True
 | .b x,u=>x.rel M u
 | .own i,u=>u=φ i
 | .ptr i o,u=>∃ g,φ i = .pointer (some ⟨g,0,none⟩)/\u = .pointer (some ⟨g,o,none⟩)
 | .ea c j o,u=>j<c.len/\∃ ad vs,c.rel M vs/\u = .pointer (some (ad.add (j*c.w+o)))/\RdM M (some ad) vs
 | .oa i w j o,u=>∃ g n cap,φ i = .slice (some ⟨g,0,none⟩) n cap/\u = .pointer (some ⟨g,j*w+o,none⟩)
 | .ip xs o,u=>∃ ad,u = .pointer (some (ad.add o))/\G9 M ad xs
def gQ (φ:Nat->Value) (M:Mem) (xs:List Lf) (us:List Value):Prop:=us.length=xs.length/\∀ j (h:j<xs.length) (h':j<us.length),xs[j].rel φ M us[j]
def TV.rel (φ:Nat->Value) (M:Mem):TV->Value->Prop
 | .one x,u=>x.rel φ M u
 | .agg xs,u=>∃ us:List Value,u = .agg us.toArray/\gQ φ M xs us
def YU (φ:Nat->Value) (M:Mem) (xs:List TV) (us:List Value):Prop:=us.length=xs.length/\∀ j (h:j<xs.length) (h':j<us.length),xs[j].rel φ M us[j]
def AV.rel (φ:Nat->Value) (M:Mem):AV->Value->Prop
 | .tv x,u=>x.rel φ M u
 | .clo f xs,u=>∃ us:List Value,u = .func (.func f) #[] us.toArray/\gQ φ M xs us
 | .tup xs,u=>∃ us:List Value,u = .tuple us.toArray/\YU φ M xs us
theorem G9.mono {M M':Mem} (hm:M.le M') {ad:Addr} {xs:List B} (h:G9 M ad xs):G9 M' ad xs:=fun t ht=>by
 obtain ⟨u,e,hu⟩:=h t ht
 exact ⟨u,hm _ _ e,B.aX hm hu⟩
theorem Lf.aX {φ:Nat->Value} {M M':Mem} (hm:M.le M') {x:Lf} {u:Value} (h:x.rel φ M u):x.rel φ M' u:=by
 cases x with
 | und=>trivial
 | b x=>exact B.aX hm h
 | own i=>exact h
 | ptr i o=>exact h
 | ea c j o =>
  obtain ⟨h0,ad,vs,h1,h2,h3⟩:=h
  exact ⟨h0,ad,vs,Cn.aX hm h1,h2,h3.mono hm⟩
 | oa i w j o=>exact h
 | ip xs o =>
  obtain ⟨ad,h1,h2⟩:=h
  exact ⟨ad,h1,h2.mono hm⟩
theorem gQ.imp {φ φ':Nat->Value} {M M':Mem} {xs:List Lf} {us:List Value} (h:gQ φ M xs us) (k:∀ x∈xs,∀ u,x.rel φ M u->x.rel φ' M' u):gQ φ' M' xs us :=
 ⟨h.1,fun j hj hj'=>k _ (List.getElem_mem hj) _ (h.2 j hj hj')⟩
def TV.leaves:TV->List Lf
 | .one x=>[x]
 | .agg xs=>xs
theorem TV.oD {φ φ':Nat->Value} {M M':Mem} {x:TV} {u:Value} (h:x.rel φ M u) (k:∀ y∈x.leaves,∀ u,y.rel φ M u->y.rel φ' M' u):x.rel φ' M' u:=by
 cases x with
 | one x=>exact k x (by simp [TV.leaves]) u h
 | agg xs =>
  obtain ⟨us,e,h1⟩:=h
  exact ⟨us,e,h1.imp fun y hy u hu=>k y hy u hu⟩
def AV.leaves:AV->List Lf
 | .tv x=>x.leaves
 | .clo _ xs=>xs
 | .tup xs=>xs.flatMap TV.leaves
theorem AV.oD {φ φ':Nat->Value} {M M':Mem} {x:AV} {u:Value} (h:x.rel φ M u) (k:∀ y∈x.leaves,∀ u,y.rel φ M u->y.rel φ' M' u):x.rel φ' M' u:=by
 cases x with
 | tv x=>exact TV.oD h k
 | clo f xs =>
  obtain ⟨us,e,h1⟩:=h
  exact ⟨us,e,h1.imp fun y hy u hu=>k y hy u hu⟩
 | tup xs =>
  obtain ⟨us,e,h1,h2⟩:=h
  refine ⟨us,e,h1,fun j hj hj'=>TV.oD (h2 j hj hj') fun y hy u hu=>k y ?_ u hu⟩
  simp only [AV.leaves,List.mem_flatMap]
  exact ⟨xs[j],List.getElem_mem hj,hy⟩
theorem AV.aX {φ:Nat->Value} {M M':Mem} (hm:M.le M') {x:AV} {u:Value} (h:x.rel φ M u):x.rel φ M' u:=x.oD h fun _ _ _ h=>Lf.aX hm h
def blk:Value->Option Nat
 | .pointer (some a)=>some a.block
 | .slice (some a) _ _=>some a.block
 | _=>none
def Cn.flat:Cn->Bool
 | .ints _=>true
 | .k _ _=>true
 | .bo _=>true
 | .nl _=>true
 | .wk _=>true
 | _=>false
def Cn.part (l h:Nat):Cn->Cn
 | .ints xs => .ints ((xs.take h).drop l)
 | .ii xs => .ii ((xs.take h).drop l)
 | .iii xs => .iii ((xs.take h).drop l)
 | .k n xs => .k n ((xs.take h).drop l)
 | .ki n xs => .ki n ((xs.take h).drop l)
 | .kii n xs => .kii n ((xs.take h).drop l)
 | .bo xs => .bo ((xs.take h).drop l)
 | .bbo xs => .bbo ((xs.take h).drop l)
 | .nl n => .nl (min h n-l)
 | .wk xs => .wk ((xs.take h).drop l)
theorem Sl {α:Type} {xs:List α} {l h j:Nat} {d:α} (hj:l+j<h):((xs.take h).drop l).getD j d=xs.getD (l+j) d:=by
 rw [List.getD_eq_getElem?_getD,List.getD_eq_getElem?_getD,List.getElem?_drop,List.getElem?_take,if_pos hj]
theorem Cn.yJ {c:Cn} {l h:Nat} (hh:h<=c.len):(c.part l h).len=h-l:=by
 cases c<;>simp only [Cn.part,Cn.len,List.length_drop,List.length_take] at hh ⊢<;>omega
theorem Cn.V6 {c:Cn} {l h:Nat}:(c.part l h).w=c.w:=by cases c<;>rfl
theorem Cn.Sj {c:Cn} {l h j o:Nat} (hj:l+j<h):(c.part l h).cell j o=c.cell (l+j) o:=by
 cases c<;>simp only [Cn.part,Cn.cell,Sl hj]
theorem Cn.Yu {c:Cn} {l h:Nat} (hc:c.ok):(c.part l h).ok:=by
 cases c<;>simp only [Cn.part,Cn.ok] at hc ⊢
 exact fun x hx=>hc x (List.mem_of_mem_take (List.mem_of_mem_drop hx))
theorem Cn.V5 {M:Mem} {c:Cn} {vs:List Value} {l h:Nat} (hc:c.rel M vs) (hlh:l<=h) (hh:h<=c.len):(c.part l h).rel M ((vs.take (h*c.w)).drop (l*c.w)):=by
 obtain ⟨h1,h2,h3⟩:=hc
 have hm:h*c.w<=c.len*c.w:=Nat.mul_le_mul_right _ hh
 refine ⟨c.Yu h1,?_,fun j o hj ho =>?_⟩
 ·rw [List.length_drop,List.length_take,c.yJ hh,c.V6,h2,Nat.min_eq_left hm,Nat.sub_mul]
 ·rw [c.yJ hh] at hj
  rw [c.V6] at ho ⊢
  obtain ⟨u,e,hu⟩:=h3 (l+j) o (by omega) ho
  refine ⟨u,?_,by show B.rel M ((c.part l h).cell j o) u;rw [c.Sj (by omega)];exact hu⟩
  have h4:(l+j+1)*c.w<=h*c.w:=Nat.mul_le_mul_right _ (by omega)
  rw [Nat.add_mul,Nat.one_mul] at h4
  rw [List.getElem?_drop,List.getElem?_take,← Nat.add_assoc,← Nat.add_mul,if_pos (by omega)]
  exact e
def Cn.sub:Cn->Nat->Cn
 | .ii xs,j => .ints (xs.getD j [])
 | .iii xs,j => .ii (xs.getD j [])
 | .ki n xs,j => .k n (xs.getD j [])
 | .kii n xs,j => .ki n (xs.getD j [])
 | .bbo xs,j => .bo (xs.getD j [])
 | c,_=>c
abbrev noM:Mem:=fun _=>none
def gX (w:World):List Nat->Cn->Value->(Nat->Prop)->Prop
 | [],_,_,_=>False
 | [e],c,u,S=>c.flat=true/\∃ vs,w.ownsRow 0 e c.w u c.len vs/\c.rel noM vs/\∀ g,blk u=some g->S g
 | e::e2::es,c,u,S=>c.flat=false/\∃ (vs:List Value) (Ss:Nat->Nat->Prop),w.ownsRow 0 e 1 u c.len vs/\(∀ g,blk u=some g->S g/\∀ j,¬ Ss j g)/\(∀ j g,Ss j g->S g)/\(∀ j k g,Ss j g->Ss k g->j=k) /\
   ∀ j v,j<c.len->vs[j]? = some v->gX w (e2::es) (c.sub j) v (Ss j)
inductive Ob
 | gone
 | box (cs:List Lf)
 | row (e:Nat) (c:Cn)
 | tree (es:List Nat) (c:Cn)
 | hole (e:Nat) (es:List Nat) (c:Cn) (k:Nat) (x:Lf)
 | cut (e e2:Nat) (c:Cn) (k:Nat) (x:Lf)
def mX (φ:Nat->Value) (M:Mem) (w:World) (e:Nat) (es:List Nat) (c:Cn) (k:Nat) (x:Lf) (u:Value) (S:Nat->Prop):Prop :=
 c.flat=false/\∃ (vs:List Value) (Ss:Nat->Nat->Prop),w.ownsRow 0 e 1 u c.len vs/\(∀ g,blk u=some g->S g/\∀ j,¬ Ss j g)/\(∀ j g,j≠k->Ss j g->S g)/\(∀ j k g,Ss j g->Ss k g->j=k) /\
   ∀ j v,j<c.len->vs[j]? = some v->(j≠k->gX w es (c.sub j) v (Ss j))/\(j=k->x.rel φ M v)
def rG (φ:Nat->Value) (M:Mem) (w:World) (e e2:Nat) (c:Cn) (k:Nat) (x:Lf) (u:Value) (S:Nat->Prop):Prop :=
 c.flat=false/\∃ (vs:List Value) (Ss:Nat->Nat->Prop),w.ownsRow 0 e 1 u c.len vs/\(∀ g,blk u=some g->S g/\∀ j,¬ Ss j g)/\(∀ j g,j<k->Ss j g->S g)/\(∀ j k g,Ss j g->Ss k g->j=k) /\
   ∀ j v,j<c.len->vs[j]? = some v->(j<k->gX w [e2] (c.sub j) v (Ss j))/\(j=k->x.rel φ M v)/\(k<j->(c.cell j 0).rel M v)
def Ob.rel (φ:Nat->Value) (S:Nat->Prop) (M:Mem) (w:World) (u:Value):Ob->Prop
 | .gone=>True
 | .box cs=>∃ g arr t,u = .pointer (some ⟨g,0,none⟩)/\w.heap[g]? = some (.cells arr t (0,0))/\gQ φ M cs arr.toList/\S g
 | .row e c=>∃ vs,w.ownsRow 0 e c.w u c.len vs/\c.rel M vs/\∀ g,blk u=some g->S g
 | .tree es c=>gX w es c u S
 | .hole e es c k x=>mX φ M w e es c k x u S
 | .cut e e2 c k x=>rG φ M w e e2 c k x u S
def Ob.cn:Ob->Option Cn
 | .row _ c=>some c
 | .tree _ c=>some c
 | .hole _ _ c _ _=>some c
 | .cut _ _ c _ _=>some c
 | .box _=>none
 | .gone=>none
def Lf.ltB (n:Nat):Lf->Bool
 | .own i=>Nat.blt i n
 | .ptr i _=>Nat.blt i n
 | .oa i _ _ _=>Nat.blt i n
 | _=>true
def AV.lt (n:Nat) (x:AV):Prop:=∀ y∈x.leaves,y.ltB n=true
def Ob.lt (n:Nat):Ob->Prop
 | .box cs=>∀ y∈cs,y.ltB n=true
 | .hole _ _ _ _ x=>x.ltB n=true
 | .cut _ _ _ _ x=>x.ltB n=true
 | _=>True
structure HI (φ:Nat->Value) (β:Nat->Nat->Prop) (M:Mem) (H:List Ob) (w:World):Prop where
 mem:∀ a v,M a=some v->w.cell? a=some v
 ob:∀ (i:Nat) (o:Ob),H[i]? = some o->o.rel φ (β i) M w (φ i)
 off:∀ (i g:Nat),i<H.length->β i g->∀ a v,M a=some v->a.block≠g
 inj:∀ (i j g:Nat),i<H.length->j<H.length->β i g->β j g->i=j
 lt:∀ (i g:Nat),i<H.length->β i g->g<w.heap.size
 wf:∀ (i:Nat) (o:Ob),H[i]? = some o->o.lt H.length
theorem Lf.jK {φ φ':Nat->Value} {M:Mem} {n:Nat} {x:Lf} {u:Value} (hl:x.ltB n=true) (hφ:∀ i,i<n->φ' i=φ i) (h:x.rel φ M u):x.rel φ' M u:=by
 cases x with
 | und=>trivial
 | b x=>exact h
 | own i=>exact h.trans (hφ i (by simpa [Lf.ltB] using hl)).symm
 | ptr i o =>
  obtain ⟨g,h1,h2⟩:=h
  exact ⟨g,(hφ i (by simpa [Lf.ltB] using hl)).trans h1,h2⟩
 | ea c j o=>exact h
 | oa i w j o =>
  obtain ⟨g,n,cap,h1,h2⟩:=h
  exact ⟨g,n,cap,(hφ i (by simpa [Lf.ltB] using hl)).trans h1,h2⟩
 | ip xs o=>exact h
theorem ni {M M':Mem} {c:Cn} {vs:List Value} (hf:c.flat=true) (h:c.rel M vs):c.rel M' vs:=by
 refine ⟨h.1,h.2.mono fun j o u hu =>?_⟩
 cases c<;>simp [Cn.flat] at hf<;>exact hu
theorem sU {w w':World} {e size n:Nat} {u:Value} {vs:List Value} (h:w.ownsRow 0 e size u n vs) (hk:∀ g,blk u=some g->w'.heap[g]? = w.heap[g]?):w'.ownsRow 0 e size u n vs:=by
 obtain ⟨h1,h2⟩:=h
 refine ⟨h1,?_⟩
 rcases h2 with h2 | ⟨g,cap,cur,rfl,hg,hh,r⟩
 ·exact .inl h2
 ·exact .inr ⟨g,cap,cur,rfl,hg,(hk g rfl).trans hh,r⟩
theorem gX.keep {w w':World}:∀ {es:List Nat} {c:Cn} {u:Value} {S:Nat->Prop},gX w es c u S->(∀ g,S g->w'.heap[g]? = w.heap[g]?)->gX w' es c u S
 | [],_,_,_,h,_=>h
 | [e],c,u,S,⟨h0,vs,h1,h2,h3⟩,hk=>⟨h0,vs,sU h1 fun g hg=>hk g (h3 g hg),h2,h3⟩
 | e::e2::es,c,u,S,⟨h0,vs,Ss,h1,h2,h3,h4,h5⟩,hk=>⟨h0,vs,Ss,sU h1 fun g hg=>hk g (h2 g hg).1,h2,h3,h4,fun j v hj hv=>(h5 j v hj hv).keep fun g hg=>hk g (h3 j g hg)⟩
theorem gX.mono {w:World}:∀ {es:List Nat} {c:Cn} {u:Value} {S S':Nat->Prop},gX w es c u S->(∀ g,S g->S' g)->gX w es c u S'
 | [],_,_,_,_,h,_=>h
 | [e],c,u,S,S',⟨h0,vs,h1,h2,h3⟩,hk=>⟨h0,vs,h1,h2,fun g hg=>hk g (h3 g hg)⟩
 | e::e2::es,c,u,S,S',⟨h0,vs,Ss,h1,h2,h3,h4,h5⟩,hk=>⟨h0,vs,Ss,h1,fun g hg=>⟨hk g (h2 g hg).1,(h2 g hg).2⟩,fun j g hg=>hk g (h3 j g hg),h4,h5⟩
theorem mO {w:World} {g j:Nat} {arr:Array Value} {t:TypeId} (h:w.heap[g]? = some (.cells arr t (0,0))):w.cell? ⟨g,j,none⟩=arr.toList[j]? := by
 unfold World.cell?
 simp [h]
theorem Tv (g n:Nat):(⟨g,0,none⟩:Addr).add n=⟨g,n,none⟩:=by
 unfold Addr.add
 by_cases h:n=0<;>simp [h]
theorem D7 {M:Mem} {w:World} {e:Nat} {c:Cn} {u:Value} {vs:List Value} (h1:w.ownsRow 0 e c.w u c.len vs) (h2:c.rel M vs) (hM:∀ ad v,blk u=some ad.block->w.cell? ad=some v->M ad=some v):(B.sl c).rel M u:=by
 refine B.jB.2 ⟨vs,?_,h2⟩
 rcases h1.2 with ⟨h3,h4⟩ | ⟨g,cap,cur,h3,_,hh,h4,h5,_,ht⟩
 ·refine ⟨none,0,by rw [h3,h4],by omega,by omega,fun hn=>(hn ?_).elim⟩
  have:=h1.1
  rw [h4] at this
  simpa using this
 ·refine ⟨_,cap,h3,h4,by simpa [maxLen] using h5,fun _=>⟨_,rfl,fun j hj =>?_⟩⟩
  rw [Tv]
  refine hM _ _ (by rw [h3];rfl) ?_
  rw [mO hh]
  have hj':vs[j]? = some vs[j]:=List.getElem?_eq_getElem hj
  generalize vs[j]=v at hj'
  rw [← ht,List.getElem?_take] at hj'
  split at hj'
  ·rw [hj']
  ·cases hj'
theorem Cn.Qy {M:Mem} {c:Cn} {vs:List Value} (hf:c.flat=false) (hl:vs.length=c.len*1) (h:∀ j v,j<c.len->vs[j]? = some v->(B.sl (c.sub j)).rel M v):c.rel M vs/\c.w=1:=by
 have hw:c.w=1:=by cases c<;>simp [Cn.flat] at hf<;>rfl
 refine ⟨⟨by cases c<;>simp [Cn.flat] at hf<;>trivial,by rw [hw];exact hl,fun j o hj ho =>?_⟩,hw⟩
 have ho':o=0:=by omega
 subst ho'
 rw [hw,Nat.mul_one,Nat.add_zero]
 have hj':j<vs.length:=by omega
 refine ⟨vs[j],List.getElem?_eq_getElem hj',?_⟩
 have h3:=h j _ hj (List.getElem?_eq_getElem hj')
 cases c<;>simp [Cn.flat] at hf<;>exact h3
theorem gX.rel {M:Mem} {w:World}:∀ {es:List Nat} {c:Cn} {u:Value} {S:Nat->Prop},gX w es c u S->(∀ ad v,S ad.block->w.cell? ad=some v->M ad=some v)->(B.sl c).rel M u
 | [],_,_,_,h,_=>h.elim
 | [e],c,u,S,⟨h0,vs,h1,h2,h3⟩,hM=>D7 h1 (ni h0 h2) fun ad v hb hv=>hM ad v (h3 _ hb) hv
 | e::e2::es,c,u,S,⟨h0,vs,Ss,h1,h2,h3,h4,h5⟩,hM=>by
  obtain ⟨k1,k2⟩:=Cn.Qy (M:=M) h0 h1.1 fun j v hj hv=>(h5 j v hj hv).rel fun ad v hb hv=>hM ad v (h3 j _ hb) hv
  exact D7 (by rw [k2];exact h1) k1 fun ad v hb hv=>hM ad v (h2 _ hb).1 hv
theorem gX.outer {w:World}:∀ {es:List Nat} {c:Cn} {u:Value} {S:Nat->Prop},gX w es c u S->∃ e vs,w.ownsRow 0 e c.w u c.len vs/\∀ g,blk u=some g->S g
 | [],_,_,_,h=>h.elim
 | [e],c,u,S,⟨h0,vs,h1,h2,h3⟩=>⟨e,vs,h1,h3⟩
 | e::e2::es,c,u,S,⟨h0,vs,Ss,h1,h2,h3,h4,h5⟩=>⟨e,vs,by
  have hw:c.w=1:=by cases c<;>simp [Cn.flat] at h0<;>rfl
  rw [hw];exact h1,fun g hg=>(h2 g hg).1⟩
theorem mX.outer {φ:Nat->Value} {M:Mem} {w:World} {e:Nat} {es:List Nat} {c:Cn} {k:Nat} {x:Lf} {u:Value} {S:Nat->Prop} (h:mX φ M w e es c k x u S):∃ vs,w.ownsRow 0 e c.w u c.len vs/\∀ g,blk u=some g->S g:=by
 obtain ⟨h0,vs,Ss,h1,h2,h3,h4,h5⟩:=h
 have hw:c.w=1:=by cases c<;>simp [Cn.flat] at h0<;>rfl
 exact ⟨vs,by rw [hw];exact h1,fun g hg=>(h2 g hg).1⟩
theorem mX.keep {φ:Nat->Value} {M:Mem} {w w':World} {e:Nat} {es:List Nat} {c:Cn} {k:Nat} {x:Lf} {u:Value} {S:Nat->Prop} (h:mX φ M w e es c k x u S) (hk:∀ g,S g->w'.heap[g]? = w.heap[g]?):mX φ M w' e es c k x u S:=by
 obtain ⟨h0,vs,Ss,h1,h2,h3,h4,h5⟩:=h
 exact ⟨h0,vs,Ss,sU h1 fun g hg=>hk g (h2 g hg).1,h2,h3,h4,fun j v hj hv=>⟨fun hne=>((h5 j v hj hv).1 hne).keep fun g hg=>hk g (h3 j g hne hg),(h5 j v hj hv).2⟩⟩
theorem mX.imp {φ φ':Nat->Value} {M M':Mem} {w:World} {e:Nat} {es:List Nat} {c:Cn} {k:Nat} {x x':Lf} {u:Value} {S:Nat->Prop} (h:mX φ M w e es c k x u S) (hx:∀ v,x.rel φ M v->x'.rel φ' M' v):mX φ' M' w e es c k x' u S:=by
 obtain ⟨h0,vs,Ss,h1,h2,h3,h4,h5⟩:=h
 exact ⟨h0,vs,Ss,h1,h2,h3,h4,fun j v hj hv=>⟨(h5 j v hj hv).1,fun e=>hx _ ((h5 j v hj hv).2 e)⟩⟩
theorem rG.outer {φ:Nat->Value} {M:Mem} {w:World} {e e2:Nat} {c:Cn} {k:Nat} {x:Lf} {u:Value} {S:Nat->Prop} (h:rG φ M w e e2 c k x u S):∃ vs,w.ownsRow 0 e c.w u c.len vs/\∀ g,blk u=some g->S g:=by
 obtain ⟨h0,vs,Ss,h1,h2,h3,h4,h5⟩:=h
 have hw:c.w=1:=by cases c<;>simp [Cn.flat] at h0<;>rfl
 exact ⟨vs,by rw [hw];exact h1,fun g hg=>(h2 g hg).1⟩
theorem rG.keep {φ:Nat->Value} {M:Mem} {w w':World} {e e2:Nat} {c:Cn} {k:Nat} {x:Lf} {u:Value} {S:Nat->Prop} (h:rG φ M w e e2 c k x u S) (hk:∀ g,S g->w'.heap[g]? = w.heap[g]?):rG φ M w' e e2 c k x u S:=by
 obtain ⟨h0,vs,Ss,h1,h2,h3,h4,h5⟩:=h
 exact ⟨h0,vs,Ss,sU h1 fun g hg=>hk g (h2 g hg).1,h2,h3,h4,fun j v hj hv=>⟨fun hne=>((h5 j v hj hv).1 hne).keep fun g hg=>hk g (h3 j g hne hg),(h5 j v hj hv).2⟩⟩
theorem rG.imp {φ φ':Nat->Value} {M M':Mem} {w:World} {e e2:Nat} {c:Cn} {k:Nat} {x x':Lf} {u:Value} {S:Nat->Prop} (h:rG φ M w e e2 c k x u S) (hm:M.le M') (hx:∀ v,x.rel φ M v->x'.rel φ' M' v):rG φ' M' w e e2 c k x' u S:=by
 obtain ⟨h0,vs,Ss,h1,h2,h3,h4,h5⟩:=h
 exact ⟨h0,vs,Ss,h1,h2,h3,h4,fun j v hj hv=>⟨(h5 j v hj hv).1,fun e=>hx _ ((h5 j v hj hv).2.1 e),fun hl=>B.aX hm ((h5 j v hj hv).2.2 hl)⟩⟩
theorem HI.cn {φ:Nat->Value} {β:Nat->Nat->Prop} {M:Mem} {H:List Ob} {w:World} (h:HI φ β M H w) {i:Nat} {c:Cn} (hi:(H[i]?).bind Ob.cn=some c):∃ e vs,w.ownsRow 0 e c.w (φ i) c.len vs/\∀ g,blk (φ i)=some g->β i g:=by
 obtain ⟨o,h1,h2⟩:=Option.bind_eq_some_iff.1 hi
 have h3:=h.ob i o h1
 cases o with
 | gone=>cases h2
 | box cs=>cases h2
 | row e c'=>cases h2;obtain ⟨vs,k1,k2,k3⟩:=h3;exact ⟨e,vs,k1,k3⟩
 | tree es c'=>cases h2;exact gX.outer h3
 | hole e es c' k x=>cases h2;obtain ⟨vs,k1,k2⟩:=mX.outer h3;exact ⟨e,vs,k1,k2⟩
 | cut e e2 c' k x=>cases h2;obtain ⟨vs,k1,k2⟩:=rG.outer h3;exact ⟨e,vs,k1,k2⟩
section
variable {φ:Nat->Value} {M:Mem}
def kZ:Value->Bool
 | .agg _=>false
 | .tuple _=>false
 | _=>true
theorem cells_one {u:Value} (h:kZ u=true):u.cells=#[u]:=by cases u<;>first | rfl | simp [kZ] at h
theorem jE {x:Lf} {u:Value} (h:x.rel φ M u) (hl:kZ u=true):gQ φ M [x] u.cells.toList:=by
 rw [cells_one hl]
 exact ⟨rfl,fun j hj hj'=>by match j,hj with | 0,_=>exact h⟩
def splice {α:Type}:List α->Nat->List α->List α
 | cs,_,[]=>cs
 | [],_,_=>[]
 | _::cs,0,v::vs=>v::splice cs 0 vs
 | c::cs,o+1,v::vs=>c::splice cs o (v::vs)
theorem cO {α:Type}:∀ (cs:List α) (o:Nat) (vs:List α),(splice cs o vs).length=cs.length
 | cs,o,[]=>by cases cs<;>cases o<;>rfl
 | [],o,v::vs=>by cases o<;>rfl
 | c::cs,0,v::vs=>by simp [splice,cO cs 0 vs]
 | c::cs,o+1,v::vs=>by simp [splice,cO cs o (v::vs)]
theorem dH {α:Type}:∀ (cs:List α) (o:Nat) (vs:List α),o+vs.length<=cs.length->∀ k,(splice cs o vs)[k]? = if o<=k/\k<o+vs.length then vs[k-o]? else cs[k]?
 | cs,o,[],h,k=>by
  have:splice cs o []=cs:=by cases cs<;>cases o<;>rfl
  rw [this,if_neg (by simp only [List.length_nil];omega)]
 | [],o,v::vs,h,k=>by simp at h
 | c::cs,0,v::vs,h,k=>by
  simp only [splice]
  cases k with
  | zero=>simp
  | succ k =>
   have:=dH cs 0 vs (by simpa using h) k
   simp only [List.getElem?_cons_succ,this,List.length_cons,Nat.zero_le,true_and,Nat.zero_add,Nat.sub_zero]
   by_cases hk:k<vs.length
   ·rw [if_pos hk,if_pos (by omega)]
   ·rw [if_neg hk,if_neg (by omega)]
 | c::cs,o+1,v::vs,h,k=>by
  simp only [splice]
  cases k with
  | zero=>simp
  | succ k =>
   have:=dH cs o (v::vs) (by simp at h ⊢;omega) k
   simp only [List.getElem?_cons_succ,this]
   by_cases hk:o<=k/\k<o+(v::vs).length
   ·rw [if_pos hk,if_pos (by omega)]
    congr 1
    omega
   ·rw [if_neg hk,if_neg (by omega)]
theorem wQ {α:Type}:∀ (cs:List α) (o:Nat) (v:α) (vs:List α),splice (cs.set o v) (o+1) vs=splice cs o (v::vs)\/cs.length<=o
 | [],o,v,vs => .inr (Nat.zero_le _)
 | c::cs,0,v,vs=>by
  left
  cases vs with
  | nil=>cases cs<;>rfl
  | cons v' vs=>simp [splice]
 | c::cs,o+1,v,vs=>by
  rcases wQ cs o v vs with h | h
  ·left
   cases vs with
   | nil=>simpa [splice] using h
   | cons v' vs=>simpa [splice] using h
  ·right;simpa using h
theorem wP {α:Type} (cs:List α) (o:Nat):splice cs o []=cs:=by cases cs<;>cases o<;>rfl
theorem Oy {α:Type} (cs us vs:List α) (o:Nat) (h:o+us.length+vs.length<=cs.length):splice (splice cs o us) (o+us.length) vs=splice cs o (us++vs):=by
 refine List.ext_getElem? fun k =>?_
 rw [dH _ _ _ (by rw [cO];omega),dH _ _ _ (by omega),dH _ _ _ (by simp;omega)]
 simp only [List.length_append]
 by_cases h1:o+us.length<=k/\k<o+us.length+vs.length
 ·rw [if_pos h1,if_pos (by omega),List.getElem?_append_right (by omega)]
  congr 1
  omega
 ·rw [if_neg h1]
  by_cases h2:o<=k/\k<o+us.length
  ·rw [if_pos h2,if_pos (by omega),List.getElem?_append_left (by omega)]
  ·rw [if_neg h2,if_neg (by omega)]
theorem Ox {α:Type} (cs vs:List α) (h:vs.length=cs.length):splice cs 0 vs=vs:=by
 refine List.ext_getElem? fun k =>?_
 rw [dH _ _ _ (by omega)]
 by_cases h1:k<vs.length
 ·rw [if_pos (by omega)];rfl
 ·rw [if_neg (by omega),List.getElem?_eq_none (by omega),List.getElem?_eq_none (by omega)]
theorem qE:∀ (vs:List Value) (j off:Nat) (cs:Array Value),off+j+vs.length<=cs.size->((vs.zipIdx j).foldl (fun cs (p:Value×Nat)=>cs.setIfInBounds (off+p.2) p.1) cs).toList=splice cs.toList (off+j) vs
 | [],j,off,cs,_=>by simp [wP]
 | v::vs,j,off,cs,h=>by
  simp only [List.zipIdx_cons,List.foldl_cons]
  rw [qE vs (j+1) off _ (by simp at h ⊢;omega),Array.toList_setIfInBounds,← Nat.add_assoc]
  rcases wQ cs.toList (off+j) v vs with e | e
  ·exact e
  ·simp at h e;omega
def Lf.dU (H:List Ob):Lf->Bool
 | .b (.val v)=>kZ v
 | .b (.sl _)=>true
 | .b (.raw _)=>true
 | .ptr _ _=>true
 | .ip _ _=>true
 | .own i=>match (H[i]?).bind Ob.cn with
  | some _=>true
  | none=>false
 | _=>false
theorem nK {φ:Nat->Value} {β:Nat->Nat->Prop} {M:Mem} {H:List Ob} {w:World} (hH:HI φ β M H w) {x:Lf} {u:Value} (hx:x.dU H=true) (h:x.rel φ M u):kZ u=true:=by
 cases x with
 | b x =>
  cases x with
  | val v=>rw [show u=v from h];exact hx
  | raw bs=>obtain ⟨vs,⟨A,c,e,_⟩,_⟩:=h;rw [e];rfl
  | fn f cs=>cases hx
  | bm f cs=>cases hx
  | sl c =>
   obtain ⟨vs,⟨A,c,e,_⟩,_⟩:=B.jB.1 h
   rw [e];rfl
 | ptr i o=>obtain ⟨g,_,e⟩:=h;rw [e];rfl
 | ip xs o=>obtain ⟨ad,e,_⟩:=h;rw [e];rfl
 | own i =>
  simp only [Lf.dU] at hx
  split at hx
  ·rename_i hi
   obtain ⟨e,vs,h1,_⟩:=hH.cn hi
   rw [show u=φ i from h]
   rcases h1.2 with ⟨h2,_⟩ | ⟨g,cap,cur,h2,_⟩<;>rw [h2]<;>rfl
  ·cases hx
 | _=>cases hx
def TV.cs:TV->List Lf
 | .one x=>[x]
 | .agg xs=>xs
theorem yZ {v:TV} {u:Value} (h:v.rel φ M u) (hl:∀ x,v = .one x->kZ u=true):gQ φ M v.cs u.cells.toList:=by
 cases v with
 | one x=>exact jE h (hl x rfl)
 | agg xs =>
  obtain ⟨us,rfl,h1⟩:=h
  exact h1
theorem wO {α:Type}:∀ {cs:List α} {o:Nat} {vs:List α} {y:α},y∈splice cs o vs->y∈cs\/y∈vs
 | cs,o,[],y,h => .inl (by rw [wP] at h;exact h)
 | [],o,v::vs,y,h=>by cases o<;>simp [splice] at h
 | c::cs,0,v::vs,y,h=>by
  simp only [splice,List.mem_cons] at h ⊢
  rcases h with h | h
  ·exact .inr (.inl h)
  ·rcases wO h with h | h
   ·exact .inl (.inr h)
   ·exact .inr (.inr h)
 | c::cs,o+1,v::vs,y,h=>by
  simp only [splice,List.mem_cons] at h ⊢
  rcases h with h | h
  ·exact .inl (.inl h)
  ·rcases wO h with h | h
   ·exact .inl (.inr h)
   ·exact .inr (by simpa using h)
theorem gQ.splice {cs vs:List Lf} {us ws:List Value} {off:Nat} (h:gQ φ M cs us) (k:gQ φ M vs ws) (hb:off+vs.length<=cs.length):gQ φ M (splice cs off vs) (splice us off ws):=by
 have hus:=h.1
 have hws:=k.1
 refine ⟨by simp [cO,h.1],fun j hj hj' =>?_⟩
 have e1:=dH cs off vs hb j
 have e2:=dH us off ws (by omega) j
 rw [List.getElem?_eq_getElem hj] at e1
 rw [List.getElem?_eq_getElem hj'] at e2
 by_cases hc:off<=j/\j<off+vs.length
 ·rw [if_pos hc,List.getElem?_eq_getElem (by omega)] at e1
  rw [if_pos (by omega),List.getElem?_eq_getElem (by omega)] at e2
  simp only [Option.some.injEq] at e1 e2
  rw [e1,e2]
  exact k.2 _ _ _
 ·rw [if_neg hc] at e1
  rw [if_neg (by omega)] at e2
  rw [cO] at hj hj'
  rw [List.getElem?_eq_getElem hj] at e1
  rw [List.getElem?_eq_getElem hj'] at e2
  simp only [Option.some.injEq] at e1 e2
  rw [e1,e2]
  exact h.2 _ _ _
theorem CY {place:Nat->Option (Nat×Nat)}:∀ (ps:List (Nat×Value)) (cs:Array Value),(∀ p∈ps,∃ off,place p.1=some (off,p.2.cells.size)/\off+p.2.cells.size<=cs.size) ->
  ∃ r,Instr.fill place cs ps=some r/\r.size=cs.size/\r.toList=ps.foldl (fun l p=>splice l ((place p.1).getD (0,0)).1 p.2.cells.toList) cs.toList
 | [],cs,_=>⟨cs,rfl,rfl,rfl⟩
 | (i,v)::ps,cs,h=>by
  obtain ⟨off,h1,h2⟩:=h (i,v) List.mem_cons_self
  simp only at h1 h2
  have h3:=qE v.cells.toList 0 off cs (by simpa using h2)
  have hz:v.cells.zipIdx.foldl (fun cs (p:Value×Nat)=>cs.setIfInBounds (off+p.2) p.1) cs=(v.cells.toList.zipIdx 0).foldl (fun cs (p:Value×Nat)=>cs.setIfInBounds (off+p.2) p.1) cs:=by
   rw [← Array.foldl_toList,Array.toList_zipIdx]
  have hsz:(v.cells.zipIdx.foldl (fun cs (p:Value×Nat)=>cs.setIfInBounds (off+p.2) p.1) cs).size=cs.size:=by
   have:=congrArg List.length h3
   rw [cO] at this
   rw [hz]
   simpa using this
  obtain ⟨r,r1,r2,r3⟩:=CY (place:=place) ps (v.cells.zipIdx.foldl (fun cs (p:Value×Nat)=>cs.setIfInBounds (off+p.2) p.1) cs) (fun p hp=>by
   obtain ⟨o,k1,k2⟩:=h p (List.mem_cons_of_mem _ hp)
   exact ⟨o,k1,by rw [hsz];exact k2⟩)
  refine ⟨r,?_,r2.trans hsz,?_⟩
  ·unfold Instr.fill
   simp only [h1]
   rw [if_neg (by simp;omega)]
   exact r1
  ·rw [r3,hz,h3]
   simp [h1]
end
inductive Ty
 | bad
 | int
 | bool
 | plain
 | slice (e:Nat)
 | struct (fs:List (Nat×Nat))
 | arr (n e:Nat)
def Ty.agg:Ty->Bool
 | .struct _=>true
 | .arr _ _=>true
 | _=>false
structure Cfg where
 ty:Nat->Ty
 sz:Nat->Nat
 bytes:Nat->Nat
 zero:Nat->List Value
 eqa:Nat->Bool
 eqs:Nat->Bool
def Ty.is (P:Program) (t:Nat):Ty->Prop
 | .bad=>True
 | .int=>P.underlying t=some (.int .i64)
 | .bool=>P.underlying t=some .bool
 | .plain=>∃ d,P.underlying t=some d/\(∀ F,d ≠ .struct F)/\∀ n e,d ≠ .array n e
 | .slice e=>P.underlying t=some (.slice e)
 | .struct fs=>∃ F:Array Field,P.underlying t=some (.struct F)/\F.size=fs.length/\∀ i off t':Nat,fs[i]? = some (off,t')->∃ f:Field,F[i]? = some f/\f.offset=off/\f.type=t'/\∃ j,P.info? t'=some j/\j.size≠0
 | .arr n e=>P.underlying t=some (.array n e)
structure jP (P:Program) (cf:Cfg):Prop where
 ty:∀ t,(cf.ty t).is P t
 info:∀ t,cf.sz t≠0->∃ i,P.info? t=some i/\i.size=cf.sz t/\i.bytes=cf.bytes t/\∃ z,i.zero=some z/\z.cells.toList=cf.zero t/\z.cells.size=cf.sz t
 eqa:∀ t,cf.eqa t=true->P.eqGuardType P.depth t=false
 eqs:∀ t,cf.eqs t=true->P.eqGuardType P.depth t=false/\∀ (w:World) (as bs:List Int),as.length=cf.sz t->bs.length=cf.sz t->(Op.equal t (.agg (as.map (Value.int .i64)).toArray) (.agg (bs.map (Value.int .i64)).toArray)).run P w = .ok (decide (as=bs)) w
def I64 (n:Int):Prop := -9223372036854775808<=n/\n<=9223372036854775807
theorem I64.wrap {n:Int} (h:I64 n):IntKind.i64.wrap n=n:=IntWalk.i64_in _ h
abbrev Tm:=Nat->Bool×AV
def tab:List (Nat×Bool×AV)->Tm
 | [],_=>(true,.und)
 | (s,v)::L,t=>bif Nat.beq t s then v else tab L t
def look (T:Tm):Operand->Bool×AV
 | .tmp t=>T t
 | .const v=>(true,.val v)
 | .func f=>(true,.clo f [])
 | .global _=>(true,.und)
def need (g x:Bool):Prop:=g=true->x=true
def xZ:List Lf->Option (List (List (List Int)))
 | []=>some []
 | .b (.sl (.ii m))::l=>(xZ l).map fun k=>m::k
 | _=>none
theorem Kr:∀ {ls:List Lf} {ms:List (List (List Int))},xZ ls=some ms->ls=ms.map fun m => .b (.sl (.ii m))
 | [],ms,h=>by cases h;rfl
 | x::l,ms,h=>by
  unfold xZ at h
  split at h
  ·rename_i e
   cases e
  ·rename_i e
   cases e
   obtain ⟨k,e,rfl⟩:=Option.map_eq_some_iff.1 h
   rw [Kr e]
   rfl
  ·cases h
def adr (H:List Ob):Lf->Option (Prop×Nat×Nat×(Nat->Lf))
 | .ptr i o=>match H[i]? with
  | some (.box cs)=>some (True,cs.length,o,fun t=>cs.getD t .und)
  | _=>none
 | .ea c j o=>some (True,c.w,o,fun t => .b (c.cell j t))
 | .oa i w j o=>match H[i]? with
  | some (.row _ c)=>some (w=c.w/\j<c.len,c.w,o,fun t => .b (c.cell j t))
  | some (.hole _ _ c k x)=>some (w=1/\k=j/\j<c.len,1,o,fun _=>x)
  | some (.cut _ _ c k x)=>some (w=1/\k<=j/\j<c.len,1,o,fun _=>bif Nat.beq j k then x else .b (c.cell j 0))
  | _=>none
 | .ip xs o=>some (True,xs.length,o,fun t => .b (xs.getD t (.val undef)))
 | _=>none
def step1 (off:Nat):Lf->Option Lf
 | .ptr i o=>some (.ptr i (o+off))
 | .ea c j o=>some (.ea c j (o+off))
 | .oa i w j o=>some (.oa i w j (o+off))
 | .ip xs o=>some (.ip xs (o+off))
 | _=>none
def lenOf (H:List Ob):AV->Option Nat
 | .tv (.one (.b (.sl c)))=>some c.len
 | .tv (.one (.b (.raw bs)))=>some bs.length
 | .tv (.one (.own i))=>match (H[i]?).bind Ob.cn with
  | some c=>some c.len
  | none=>none
 | .tv (.one (.b (.val (.slice _ n _))))=>some n
 | _=>none
def arith (op:BinOp) (a b:Int):Prop×AV :=
 match op with
 | .add=>(I64 (a+b),.int (a+b))
 | .sub=>(I64 (a-b),.int (a-b))
 | .mul=>(I64 (a*b),.int (a*b))
 | .quo=>(I64 a/\0<=a/\0<b,.int (a / b))
 | .rem=>(0<=a/\0<b,.int (a % b))
 | .and=>(0<=a/\I64 a/\0<=b/\I64 b,.int ((a.toNat &&& b.toNat:Nat):Int))
 | .or=>(0<=a/\I64 a/\0<=b/\I64 b,.int ((a.toNat ||| b.toNat:Nat):Int))
 | .shl=>(I64 (a*2 ^ b.toNat)/\0<=b/\b<=62,.int (a*2 ^ b.toNat))
 | .shr=>(0<=b/\b<=62,.int (a / 2 ^ b.toNat))
 | .lss=>(True,.bool (decide (a<b)))
 | .leq=>(True,.bool (decide (a<=b)))
 | .gtr=>(True,.bool (decide (b<a)))
 | .geq=>(True,.bool (decide (b<=a)))
 | .eql=>(True,.bool (decide (a=b)))
 | .neq=>(True,.bool (!decide (a=b)))
 | _=>(False,.und)
def intsOf:List Lf->Option (List Int)
 | []=>some []
 | .b (.val (.int .i64 m))::xs=>(intsOf xs).map (m::·)
 | _=>none
def nN (cf:Cfg) (t i:Nat):Option (Nat×Nat):=match cf.ty t with
 | .struct fs=>match fs[i]? with
  | some f=>some (f.1,cf.sz f.2)
  | none=>none
 | .arr n e=>bif Nat.blt i n then some (i*cf.sz e,cf.sz e) else none
 | _=>none
def xG (cf:Cfg) (t:Nat):Prop:=match cf.ty t with
 | .struct _=>True
 | .arr _ e=>cf.sz e≠0
 | _=>False
def sV (cf:Cfg) (T:Tm) (t:Nat) (p:Nat×Operand):Option (Bool×Nat×Nat×TV):=match look T p.2 with
 | (gx,.tv v)=>match nN cf t p.1 with
  | some (off,sz)=>some (gx,off,sz,v)
  | none=>none
 | _=>none
def mY (T:Tm) (d:Nat):Option Operand->Option (Bool×Int)
 | none=>some (true,(d:Int))
 | some x=>match look T x with
  | (gx,.tv (.one (.b (.val (.int .i64 n)))))=>some (gx,n)
  | _=>none
def qev (cf:Cfg) (H:List Ob) (T:Tm) (g:Bool):Op->Prop×AV
 | .move x | .assign x=>(need g (look T x).1,(look T x).2)
 | .nilCheck x=>match look T x with
  | (gx,.tv (.one (.ptr i o)))=>(need g gx,.tv (.one (.ptr i o)))
  | (gx,.tv (.one (.ip xs o)))=>(need g gx,.tv (.one (.ip xs o)))
  | _=>(False,.und)
 | .pick c a b=>match look T c,look T a,look T b with
  | (gc,.tv (.one (.b (.val (.bool x))))),(ga,.tv (.one (.b (.val (.bool va))))),(gb,.tv (.one (.b (.val (.bool vb)))))=>(need g gc/\(g=true->x=true->ga=true)/\(g=true->x=false->gb=true),.bool (bif x then va else vb))
  | _,_,_=>(False,.und)
 | .load t x=>match look T x with
  | (gx,.tv (.one l))=>match adr H l with
   | some (s,wd,o,cell)=>bif (cf.ty t).agg
     then (need g gx/\(g=true->s/\cf.sz t≠0/\o+cf.sz t<=wd),.tv (.agg ((List.range (cf.sz t)).map fun j=>cell (o+j))))
     else (need g gx/\(g=true->s/\(match cf.ty t with | .bad=>False | _=>True)/\o<wd),.tv (.one (cell o)))
   | none=>(False,.und)
  | _=>(False,.und)
 | .fieldAddr s x f=>match cf.ty s,look T x with
  | .struct fs,(gx,.tv (.one l))=>match fs[f]? with
   | some (off,_)=>match step1 off l with
    | some l'=>(need g gx,.tv (.one l'))
    | none=>(False,.und)
   | none=>(False,.und)
  | _,_=>(False,.und)
 | .indexAddr t x ix=>match look T x,look T ix with
  | (gx,.tv (.one (.b (.sl c)))),(gi,.tv (.one (.b (.val (.int .i64 n)))))=>match cf.ty t with
   | .slice e=>(need g gx/\need g gi/\(g=true->cf.sz e=c.w/\cf.sz e≠0/\0<=n/\n<c.len),.tv (.one (.ea c n.toNat 0)))
   | _=>(False,.und)
  | (gx,.tv (.one (.own i))),(gi,.tv (.one (.b (.val (.int .i64 n)))))=>match cf.ty t,(H[i]?).bind Ob.cn with
   | .slice e,some c=>(need g gx/\need g gi/\(g=true->cf.sz e=c.w/\cf.sz e≠0/\0<=n/\n<c.len),.tv (.one (.oa i c.w n.toNat 0)))
   | _,_=>(False,.und)
  | (gx,.tv (.one l)),(gi,.tv (.one (.b (.val (.int .i64 n)))))=>match cf.ty t with
   | .arr m e=>match step1 (n.toNat*cf.sz e) l with
    | some l'=>(need g gx/\need g gi/\(g=true->cf.sz e≠0/\0<=n/\n<(m:Int)),.tv (.one l'))
    | none=>(False,.und)
   | _=>(False,.und)
  | _,_=>(False,.und)
 | .binOp op t x y _=>match look T x,look T y with
  | (gx,.tv (.one (.b (.val (.int .i64 a))))),(gy,.tv (.one (.b (.val (.int .i64 b)))))=>(need g gx/\need g gy/\(g=true->(arith op a b).1),(arith op a b).2)
  | (gx,.tv (.one (.b (.val (.bool a))))),(gy,.tv (.one (.b (.val (.bool b)))))=>match op with
   | .eql=>(need g gx/\need g gy/\(g=true->cf.ty t = .bool),.bool (a == b))
   | .neq=>(need g gx/\need g gy/\(g=true->cf.ty t = .bool),.bool (a != b))
   | _=>(False,.und)
  | (gx,.tv (.one (.b (.sl c)))),(gy,.tv (.one (.b (.val (.slice none 0 0)))))=>match op with
   | .eql=>(need g gx/\need g gy/\(g=true->(match cf.ty t with | .slice _=>True | _=>False)/\0<c.len/\0<c.w),.bool false)
   | .neq=>(need g gx/\need g gy/\(g=true->(match cf.ty t with | .slice _=>True | _=>False)/\0<c.len/\0<c.w),.bool true)
   | _=>(False,.und)
  | (gx,.tv (.one (.own i))),(gy,.tv (.one (.b (.val (.slice none 0 0)))))=>match op,(H[i]?).bind Ob.cn with
   | .eql,some c=>(need g gx/\need g gy/\(g=true->(match cf.ty t with | .slice _=>True | _=>False)/\0<c.len),.bool false)
   | .neq,some c=>(need g gx/\need g gy/\(g=true->(match cf.ty t with | .slice _=>True | _=>False)/\0<c.len),.bool true)
   | _,_=>(False,.und)
  | (gx,.tv (.one (.b (.val (.slice none 0 0))))),(gy,.tv (.one (.b (.val (.slice none 0 0)))))=>match op with
   | .eql=>(need g gx/\need g gy/\(g=true->(match cf.ty t with | .slice _=>True | _=>False)),.bool true)
   | .neq=>(need g gx/\need g gy/\(g=true->(match cf.ty t with | .slice _=>True | _=>False)),.bool false)
   | _=>(False,.und)
  | (gx,.tv (.agg xs)),(gy,.tv (.agg ys))=>match op,intsOf xs,intsOf ys,cf.ty t with
   | .eql,some as,some bs,.arr n e=>(need g gx/\need g gy/\(g=true->cf.ty e = .int/\cf.sz e=1/\cf.eqa t=true/\as.length=n/\bs.length=n),.bool (decide (as=bs)))
   | .neq,some as,some bs,.arr n e=>(need g gx/\need g gy/\(g=true->cf.ty e = .int/\cf.sz e=1/\cf.eqa t=true/\as.length=n/\bs.length=n),.bool (!decide (as=bs)))
   | .eql,some as,some bs,.struct _=>(need g gx/\need g gy/\(g=true->cf.eqs t=true/\as.length=cf.sz t/\bs.length=cf.sz t),.bool (decide (as=bs)))
   | .neq,some as,some bs,.struct _=>(need g gx/\need g gy/\(g=true->cf.eqs t=true/\as.length=cf.sz t/\bs.length=cf.sz t),.bool (!decide (as=bs)))
   | _,_,_,_=>(False,.und)
  | _,_=>(False,.und)
 | .unOp op _ x=>match op,look T x with
  | .not,(gx,.tv (.one (.b (.val (.bool v)))))=>(need g gx,.bool (!v))
  | .neg,(gx,.tv (.one (.b (.val (.int .i64 n)))))=>(need g gx/\(g=true->I64 (-n)),.int (-n))
  | _,_=>(False,.und)
 | .build t parts=>match parts.toList.mapM (sV cf T t) with
  | some ps=>((∀ p∈ps,need g p.1/\(g=true->p.2.2.2.cs.length=p.2.2.1/\p.2.2.1≠0/\p.2.2.2.cs.all (Lf.dU H)=true/\p.2.1+p.2.2.1<=cf.sz t))/\(g=true->cf.sz t≠0/\xG cf t),.tv (.agg (ps.foldl (fun l p=>splice l p.2.1 p.2.2.2.cs) ((cf.zero t).map fun v => .b (.val v)))))
  | none=>(False,.und)
 | .extract x j=>match look T x with
  | (gx,.tup xs)=>match xs[j]? with
   | some y=>(need g gx,.tv y)
   | none=>(False,.und)
  | _=>(False,.und)
 | .makeFunc fn first cap=>match fn,first.toList with
  | .func f,[]=>((∀ x∈cap.toList,need g (look T x).1/\∃ l,(look T x).2 = .tv (.one l)),.clo f (cap.toList.map fun x=>match (look T x).2 with | .tv (.one l)=>l | _ => .und))
  | .func f,[x]=>match cap.toList,look T x with
   | [],(gx,.tv (.agg ls))=>match xZ ls with
    | some ms=>(need g gx,.tv (.one (.b (.bm f ms))))
    | none=>(False,.und)
   | _,_=>(False,.und)
  | _,_=>(False,.und)
 | .slice t x lo hi none=>match look T x,cf.ty t with
  | (gx,.tv (.one (.b (.sl c)))),.slice e=>match mY T 0 lo,mY T c.len hi with
   | some (g1,l),some (g2,h)=>(need g gx/\need g g1/\need g g2/\(g=true->cf.sz e=c.w/\cf.sz e≠0/\0<=l/\l<=h/\h<=c.len),.tv (.one (.b (.sl (c.part l.toNat h.toNat)))))
   | _,_=>(False,.und)
  | _,_=>(False,.und)
 | .call c=>match c.callee,c.args.toList,c.argTypes.toList with
  | .builtin .len,[x],[t]=>match look T x,cf.ty t with
   | (gx,v),.slice _=>match lenOf H v with
    | some n=>(need g gx,.int n)
    | none=>(False,.und)
   | _,_=>(False,.und)
  | .builtin .max,[x,y],_=>match look T x,look T y with
   | (gx,.tv (.one (.b (.val (.int .i64 a))))),(gy,.tv (.one (.b (.val (.int .i64 b)))))=>(need g gx/\need g gy,.int (max a b))
   | _,_=>(False,.und)
  | .builtin .min,[x,y],_=>match look T x,look T y with
   | (gx,.tv (.one (.b (.val (.int .i64 a))))),(gy,.tv (.one (.b (.val (.int .i64 b)))))=>(need g gx/\need g gy,.int (min a b))
   | _,_=>(False,.und)
  | _,_,_=>(False,.und)
 | .field s x f=>match cf.ty s,look T x with
  | .struct fs,(gx,.tv (.agg xs))=>match fs[f]? with
   | some (off,t')=>match xs[off]? with
    | some l=>bif (cf.ty t').agg then (False,.und) else (need g gx/\(g=true->(match cf.ty t' with | .bad=>False | _=>True)),.tv (.one l))
    | none=>(False,.und)
   | none=>(False,.und)
  | _,_=>(False,.und)
 | _=>(False,.und)
section
variable {P:Program} {cf:Cfg} {φ:Nat->Value} {β:Nat->Nat->Prop} {M:Mem} {H:List Ob} {w:World} {T:Tm} {a:Act}
theorem aco {t:Nat} (hcf:jP P cf) {ad:Addr} (hag:(cf.ty t).agg=true) (hz:cf.sz t≠0) (us:List Value) (hl:us.length=cf.sz t) (hc:∀ j (h:j<us.length),w.cell? (ad.add j)=some us[j]) :
  (Instr.loadAt t (.pointer (some ad))).run P w = .ok (.agg us.toArray) w:=by
 obtain ⟨i,hi,h1,-⟩:=hcf.info t hz
 have hty:=hcf.ty t
 have hA:(isAgg t).run P w = .ok true w:=by
  unfold isAgg
  cases e:cf.ty t<;>rw [e] at hag hty<;>simp [Ty.agg] at hag
  ·obtain ⟨F,h,-⟩:=hty
   simp [run_underlying h]
  ·simp [run_underlying (show P.underlying t=_ from hty)]
 have hs:(sizeOf t).run P w = .ok us.length w:=by
  unfold sizeOf
  simp [run_typeInfo _ hi,hl,h1]
 have hlc:=run_loadCells_list (P:=P) (w:=w) ad us (fun j v hv=>by
  obtain ⟨hj,e⟩:=List.getElem?_eq_some_iff.1 hv
  rw [hc j hj,e])
 simp [Instr.loadAt,Instr.sureAddr,loadVar,hA,hs,hlc]
theorem Et {t:Nat} (hcf:jP P cf) (hb:match cf.ty t with | .bad=>False | _=>True) (hag:(cf.ty t).agg=false):(isAgg t).run P w = .ok false w:=by
 have hty:=hcf.ty t
 unfold isAgg
 cases e:cf.ty t<;>rw [e] at hag hty hb<;>simp [Ty.agg] at hag hb
 all_goals first
  | (simp [run_underlying (show P.underlying t=_ from hty)];done)
  | skip
 obtain ⟨d,h1,h2,h3⟩:=hty
 simp only [Sem.run_bind,run_underlying h1,Result.andThen_ok]
 cases d<;>first | rfl | (exact (h2 _ rfl).elim) | (exact (h3 _ _ rfl).elim)
theorem I7 {t:Nat} (hcf:jP P cf) {ad:Addr} (hb:match cf.ty t with | .bad=>False | _=>True) (hag:(cf.ty t).agg=false) {u:Value} (hc:w.cell? ad=some u) :
  (Instr.loadAt t (.pointer (some ad))).run P w = .ok u w:=by
 simp [Instr.loadAt,Instr.sureAddr,loadVar,Et hcf hb hag (w:=w),hc]
theorem fG (g o n:Nat):(⟨g,o,none⟩:Addr).add n=⟨g,o+n,none⟩:=by
 unfold Addr.add
 by_cases h:n=0<;>simp [h]
theorem add2 (ad:Addr) (i j:Nat):(ad.add i).add j=ad.add (i+j):=by
 unfold Addr.add
 by_cases hi:i=0<;>by_cases hj:j=0<;>simp [hi,hj,Nat.add_assoc]
theorem pF {g j:Nat} {arr:Array Value} {t:TypeId} (h:w.heap[g]? = some (.cells arr t (0,0))):w.cell? ⟨g,j,none⟩=arr.toList[j]? := by
 unfold World.cell?
 simp [h]
theorem RdM.at_ {ad:Addr} {vs:List Value} (h:RdM M (some ad) vs) {j:Nat} {u:Value} (hj:vs[j]? = some u):M (ad.add j)=some u:=by
 obtain ⟨hj',e⟩:=List.getElem?_eq_some_iff.1 hj
 obtain ⟨ad',e1,hc⟩:=h (by rintro rfl;simp at hj)
 cases e1
 rw [hc j hj',e]
theorem pU {g n cap e size k:Nat} {vs:List Value} (h:w.ownsRow 0 e size (.slice (some ⟨g,0,none⟩) n cap) k vs) {j:Nat} {u:Value} (hj:vs[j]? = some u):w.cell? ⟨g,j,none⟩=some u:=by
 obtain ⟨h1,h2⟩:=h
 rcases h2 with ⟨h2,_⟩ | ⟨g',cap',cur,e1,_,hh,_,_,_,ht⟩
 ·cases h2
 ·cases e1
  rw [pF hh]
  rw [← ht,List.getElem?_take] at hj
  split at hj
  ·exact hj
  ·cases hj
theorem Fz (hH:HI φ β M H w) {l:Lf} {u:Value} (hl:l.rel φ M u) {s:Prop} {wd o:Nat} {cell:Nat->Lf} (ha:adr H l=some (s,wd,o,cell)) (hs:s) :
    ∃ ad:Addr,u = .pointer (some ad)/\∀ t,o+t<wd->∃ v,w.cell? (ad.add t)=some v/\(cell (o+t)).rel φ M v:=by
  cases l with
  | und=>simp [adr] at ha
  | b x=>simp [adr] at ha
  | own i=>simp [adr] at ha
  | ptr i o' =>
    simp only [adr] at ha
    split at ha
    · rename_i cs hcs
      simp only [Option.some.injEq,Prod.mk.injEq] at ha
      obtain ⟨rfl,rfl,rfl,rfl⟩:=ha
      obtain ⟨g,h1,h2⟩:=hl
      obtain ⟨g',arr,t,h3,h4,⟨h5,h6⟩,_⟩:=hH.ob i _ hcs
      rw [h1] at h3
      cases h3
      refine ⟨_,h2,fun t ht =>?_⟩
      have ht':o'+t<arr.toList.length:=by rw [h5];exact ht
      refine ⟨arr.toList[o'+t],by rw [fG,pF h4,List.getElem?_eq_getElem ht'],?_⟩
      have:=h6 (o'+t) ht ht'
      show Lf.rel φ M (cs.getD (o'+t) .und) _
      rwa [List.getD_eq_getElem?_getD,List.getElem?_eq_getElem ht]
    · cases ha
  | ea c j o' =>
    simp only [adr,Option.some.injEq,Prod.mk.injEq] at ha
    obtain ⟨rfl,rfl,rfl,rfl⟩:=ha
    obtain ⟨h0,ad,vs,h1,h2,h3⟩:=hl
    refine ⟨_,h2,fun t ht =>?_⟩
    obtain ⟨u',e,hu⟩:=h1.2.2 j (o'+t) h0 ht
    exact ⟨u',by rw [add2,Nat.add_assoc];exact hH.mem _ _ (h3.at_ e),hu⟩
  | oa i wd' j o' =>
    simp only [adr] at ha
    split at ha
    · rename_i e c hc
      simp only [Option.some.injEq,Prod.mk.injEq] at ha
      obtain ⟨rfl,rfl,rfl,rfl⟩:=ha
      obtain ⟨rfl,hj⟩:=hs
      obtain ⟨g,n,cap,h1,h2⟩:=hl
      obtain ⟨vs,h3,h4,_⟩:=hH.ob i _ hc
      rw [h1] at h3
      refine ⟨_,h2,fun t ht =>?_⟩
      obtain ⟨u',e',hu⟩:=h4.2.2 j (o'+t) hj ht
      exact ⟨u',by rw [fG,Nat.add_assoc];exact pU h3 e',hu⟩
    · rename_i e es c k x hc
      simp only [Option.some.injEq,Prod.mk.injEq] at ha
      obtain ⟨rfl,rfl,rfl,rfl⟩:=ha
      obtain ⟨rfl,rfl,hj⟩:=hs
      obtain ⟨g,n,cap,h1,h2⟩:=hl
      obtain ⟨_,vs,_,h3,_,_,_,h4⟩:=hH.ob i _ hc
      rw [h1] at h3
      refine ⟨_,h2,fun t ht =>?_⟩
      have hjv:k<vs.length:=by have:=h3.1;omega
      have e':vs[k*1+(o'+t)]? = some vs[k]:=by
        rw [show k*1+(o'+t)=k by omega]
        exact List.getElem?_eq_getElem hjv
      exact ⟨vs[k],by rw [fG,Nat.add_assoc];exact pU h3 e',(h4 k vs[k] hj (List.getElem?_eq_getElem hjv)).2 rfl⟩
    · rename_i e e2 c k x hc
      simp only [Option.some.injEq,Prod.mk.injEq] at ha
      obtain ⟨rfl,rfl,rfl,rfl⟩:=ha
      obtain ⟨rfl,hk,hj⟩:=hs
      obtain ⟨g,n,cap,h1,h2⟩:=hl
      obtain ⟨_,vs,_,h3,_,_,_,h4⟩:=hH.ob i _ hc
      rw [h1] at h3
      refine ⟨_,h2,fun t ht =>?_⟩
      have hjv:j<vs.length:=by have:=h3.1;omega
      have e':vs[j*1+(o'+t)]? = some vs[j]:=by
        rw [show j*1+(o'+t)=j by omega]
        exact List.getElem?_eq_getElem hjv
      refine ⟨vs[j],by rw [fG,Nat.add_assoc];exact pU h3 e',?_⟩
      have h5:=h4 j vs[j] hj (List.getElem?_eq_getElem hjv)
      show Lf.rel φ M (bif Nat.beq j k then x else .b (c.cell j 0)) _
      cases e:Nat.beq j k with
      | true=>exact h5.2.1 (Nat.eq_of_beq_eq_true e)
      | false => exact h5.2.2 (by have : j ≠ k := fun e2 => by rw [e2, Nat.beq_refl] at e; cases e
                                  omega)
    · cases ha
  | ip xs o' =>
    simp only [adr,Option.some.injEq,Prod.mk.injEq] at ha
    obtain ⟨rfl,rfl,rfl,rfl⟩:=ha
    obtain ⟨ad,h1,h2⟩:=hl
    refine ⟨_,h1,fun t ht =>?_⟩
    obtain ⟨u',e,hu⟩:=h2 (o'+t) ht
    refine ⟨u',by rw [add2];exact hH.mem _ _ e,?_⟩
    show B.rel M (xs.getD (o'+t) _) u'
    rwa [List.getD_eq_getElem?_getD,List.getElem?_eq_getElem ht]
def vH (P:Program) (a:Act) (w:World) (o:Oper) (φ:Nat->Value) (M:Mem) (v:AV):Prop:=∃ u,(execOp a.eval o).run P w = .ok (.value u) w/\v.rel φ M u
structure Ctx (P:Program) (cf:Cfg) (φ:Nat->Value) (β:Nat->Nat->Prop) (M:Mem) (H:List Ob) (w:World) (T:Tm) (a:Act):Prop where
 cf:jP P cf
 hi:HI φ β M H w
 t:∀ x,(look T x).1=true->(look T x).2.rel φ M (a.eval x)
section
variable {o:Oper}
theorem Wp (C:Ctx P cf φ β M H w T a) {t:Nat} {x:Operand} (ho:o.op = .load t x) (hs:(qev cf H T true (.load t x)).1):vH P a w o φ M (qev cf H T true (.load t x)).2:=by
 have hx:=C.t x
 simp only [qev] at hs ⊢
 split at hs
 ·rename_i gx l hl
  rw [hl] at hx
  split at hs
  ·rename_i s wd of cell ha
   cases hag:(cf.ty t).agg
   ·simp only [hag,cond_false] at hs ⊢
    obtain ⟨h1,h2⟩:=hs
    obtain ⟨hs1,hb,ho1⟩:=h2 trivial
    have hr:=hx (h1 rfl)
    obtain ⟨ad,e,hc⟩:=Fz C.hi hr ha hs1
    obtain ⟨v,hv,hrel⟩:=hc 0 (by omega)
    refine ⟨v,?_,by show Lf.rel φ M _ v;simpa using hrel⟩
    have:=I7 C.cf hb hag (w:=w) (ad:=ad) (u:=v) hv
    simp only [execOp,ho,e,Sem.run_bind,this,Result.andThen_ok,Sem.run_pure]
   ·simp only [hag,cond_true] at hs ⊢
    obtain ⟨h1,h2⟩:=hs
    obtain ⟨hs1,hz,ho1⟩:=h2 trivial
    have hr:=hx (h1 rfl)
    obtain ⟨ad,e,hc⟩:=Fz C.hi hr ha hs1
    have hx':∀ j:Fin (cf.sz t),∃ v,w.cell? (ad.add j.1)=some v/\(cell (of+j.1)).rel φ M v:=fun j=>hc j.1 (by have:=j.2;omega)
    let us:List Value:=List.ofFn fun j=>(hx' j).choose
    have hus:∀ j (h:j<us.length),w.cell? (ad.add j)=some us[j]/\(cell (of+j)).rel φ M us[j]:=fun j h=>by
     have h':j<cf.sz t:=by simpa [us] using h
     have:=(hx' ⟨j,h'⟩).choose_spec
     simpa [us] using this
    have hr2:=aco C.cf (w:=w) (ad:=ad) hag hz us (by simp [us]) fun j h=>(hus j h).1
    refine ⟨_,by simp only [execOp,ho,e,Sem.run_bind,hr2,Result.andThen_ok,Sem.run_pure],us,rfl,by simp [us],fun j h h' =>?_⟩
    simpa using (hus j h').2
  ·exact hs.elim
 ·exact hs.elim
theorem Wq (C:Ctx P cf φ β M H w T a) {x:Operand} (ho:o.op = .move x\/o.op = .assign x) (hs:(look T x).1=true):vH P a w o φ M (look T x).2:=by
 refine ⟨a.eval x,?_,C.t x hs⟩
 rcases ho with ho | ho<;>simp [execOp,ho]
theorem ac3 (C:Ctx P cf φ β M H w T a) {x:Operand} (ho:o.op = .nilCheck x) (hs:(qev cf H T true (.nilCheck x)).1):vH P a w o φ M (qev cf H T true (.nilCheck x)).2:=by
 have hx:=C.t x
 simp only [qev] at hs ⊢
 split at hs
 ·rename_i gx i of hl
  rw [hl] at hx
  have hr:=hx (hs rfl)
  refine ⟨a.eval x,?_,hr⟩
  obtain ⟨g,_,e⟩:=hr
  simp [execOp,ho,e]
 ·rename_i gx i of hl
  rw [hl] at hx
  have hr:=hx (hs rfl)
  refine ⟨a.eval x,?_,hr⟩
  obtain ⟨g,e,_⟩:=hr
  simp [execOp,ho,e]
 ·exact hs.elim
theorem ZV (C:Ctx P cf φ β M H w T a) {c x y:Operand} (ho:o.op = .pick c x y) (hs:(qev cf H T true (.pick c x y)).1):vH P a w o φ M (qev cf H T true (.pick c x y)).2:=by
 have hc:=C.t c
 have hx:=C.t x
 have hy:=C.t y
 simp only [qev] at hs ⊢
 split at hs
 ·rename_i gc b ga va gb vb e1 e2 e3
  rw [e1] at hc
  rw [e2] at hx
  rw [e3] at hy
  obtain ⟨h1,h2,h3⟩:=hs
  have rc:a.eval c = .bool b:=hc (h1 rfl)
  cases b
  ·have ry:a.eval y = .bool vb:=hy (h3 trivial rfl)
   exact ⟨.bool vb,by simp [execOp,ho,rc,ry,asBool],rfl⟩
  ·have rx:a.eval x = .bool va:=hx (h2 trivial rfl)
   exact ⟨.bool va,by simp [execOp,ho,rc,rx,asBool],rfl⟩
 ·exact hs.elim
theorem GV {off:Nat} {l l':Lf} {u:Value} (hr:l.rel φ M u) (hl':step1 off l=some l'):∃ ad:Addr,u = .pointer (some ad)/\l'.rel φ M (.pointer (some (ad.add off))):=by
 cases l<;>simp [step1] at hl'<;>subst hl'
 ·obtain ⟨g,h3,h4⟩:=hr
  exact ⟨_,h4,g,h3,by rw [fG]⟩
 ·obtain ⟨h0,ad,vs,h3,h4,h5⟩:=hr
  exact ⟨_,h4,h0,ad,vs,h3,by rw [add2,Nat.add_assoc],h5⟩
 ·obtain ⟨g,n,cap,h3,h4⟩:=hr
  exact ⟨_,h4,g,n,cap,h3,by rw [fG,Nat.add_assoc]⟩
 ·obtain ⟨ad,h3,h4⟩:=hr
  exact ⟨_,h3,ad,by rw [add2],h4⟩
theorem Yw (C:Ctx P cf φ β M H w T a) {s f:Nat} {x:Operand} (ho:o.op = .fieldAddr s x f) (hs:(qev cf H T true (.fieldAddr s x f)).1):vH P a w o φ M (qev cf H T true (.fieldAddr s x f)).2:=by
 have hx:=C.t x
 have hty:=C.cf.ty s
 simp only [qev] at hs ⊢
 split at hs
 ·rename_i fs gx l e1 e2
  rw [e2] at hx
  rw [e1] at hty
  split at hs
  ·rename_i off t' hf
   split at hs
   ·rename_i l' hl'
    have hr:=hx (hs rfl)
    obtain ⟨F,h1,-,h2⟩:=hty
    obtain ⟨fd,hF,hoff,hft,j,hj,hz⟩:=h2 f off t' hf
    obtain ⟨ad,e3,hl2⟩:=GV hr hl'
    have e:a.eval x = .pointer (some ad):=e3
    refine ⟨_,?_,hl2⟩
    have hu:=run_underlying h1 w
    have hsz:(sizeOf fd.type).run P w = .ok j.size w:=by
     unfold sizeOf
     simp [run_typeInfo _ (hft ▸ hj)]
    simp [execOp,ho,Instr.fieldAt,hu,hF,e,Instr.sureAddr,fieldPlace,hsz,hz,hoff]
   ·exact hs.elim
  ·exact hs.elim
 ·exact hs.elim
theorem ac2 (C:Ctx P cf φ β M H w T a) {s f:Nat} {x:Operand} (ho:o.op = .field s x f) (hs:(qev cf H T true (.field s x f)).1):vH P a w o φ M (qev cf H T true (.field s x f)).2:=by
 have hx:=C.t x
 have hty:=C.cf.ty s
 simp only [qev] at hs ⊢
 split at hs
 ·rename_i fs gx xs e1 e2
  rw [e2] at hx
  rw [e1] at hty
  split at hs
  ·rename_i off t' hf
   split at hs
   ·rename_i l hl
    cases hag:(cf.ty t').agg
    ·simp only [hag,cond_false] at hs ⊢
     obtain ⟨h0,hb⟩:=hs
     have hb:=hb trivial
     obtain ⟨us,e,h1,h2⟩:=hx (h0 rfl)
     obtain ⟨F,k1,-,k2⟩:=hty
     obtain ⟨fd,hF,hoff,hft,_⟩:=k2 f off t' hf
     obtain ⟨hj,e3⟩:=List.getElem?_eq_some_iff.1 hl
     have hj':off<us.length:=by omega
     have hu:=run_underlying k1 w
     have hA:=Et C.cf hb hag (w:=w)
     have e':a.eval x = .agg us.toArray:=e
     refine ⟨us[off],?_,?_⟩
     ·simp [execOp,ho,Instr.field,hu,hF,hoff,hft,part,hA,asAgg,e',hj']
     ·have:=h2 off hj hj'
      rw [e3] at this
      exact this
    ·simp only [hag,cond_true] at hs
   ·exact hs.elim
  ·exact hs.elim
 ·exact hs.elim
theorem run_equal_bool {t:Nat} (h:P.underlying t=some .bool) (a b:Bool):(Op.equal t (.bool a) (.bool b)).run P w = .ok (a == b) w:=by
 have aux:∀ d,(Op.equalIn (d+1) t (.bool a) (.bool b)).run P w = .ok (a == b) w:=fun d=>by
  unfold Op.equalIn
  simp only [Sem.run_bind,run_underlying h,Result.andThen_ok,Sem.run_pure]
 have e:Op.maxDepth=(Op.maxDepth-1)+1:=rfl
 unfold Op.equal
 rw [e]
 exact aux _
theorem uY {t e:Nat} (h:P.underlying t=some (.slice e)) (ad:Addr) (n c:Nat):(Op.equal t (.slice (some ad) n c) (.slice none 0 0)).run P w = .ok false w:=by
 have aux:∀ d,(Op.equalIn (d+1) t (.slice (some ad) n c) (.slice none 0 0)).run P w = .ok false w:=fun d=>by
  unfold Op.equalIn
  simp only [Sem.run_bind,run_underlying h,Result.andThen_ok,Sem.run_pure]
 have e:Op.maxDepth=(Op.maxDepth-1)+1:=rfl
 unfold Op.equal
 rw [e]
 exact aux _
theorem Es {t e:Nat} (h:P.underlying t=some (.slice e)):(Op.equal t (.slice none 0 0) (.slice none 0 0)).run P w = .ok true w:=by
 have aux:∀ d,(Op.equalIn (d+1) t (.slice none 0 0) (.slice none 0 0)).run P w = .ok true w:=fun d=>by
  unfold Op.equalIn
  simp only [Sem.run_bind,run_underlying h,Result.andThen_ok,Sem.run_pure]
  rfl
 have e:Op.maxDepth=(Op.maxDepth-1)+1:=rfl
 unfold Op.equal
 rw [e]
 exact aux _
theorem rQ {t:Nat} {op:BinOp} {x y:Operand} (A:Option Addr) (n c:Nat) (v:Value):eqGuard op t x y (.slice A n c) v=pure ():=by cases op<;>rfl
theorem nH:∀ {xs:List Lf} {as:List Int} {us:List Value},intsOf xs=some as->gQ φ M xs us->us=as.map (Value.int .i64)
 | [],as,us,h,hr=>by
  simp only [intsOf,Option.some.injEq] at h
  subst h
  exact List.eq_nil_of_length_eq_zero hr.1
 | x::xs,as,us,h,hr=>by
  unfold intsOf at h
  split at h
  ·rename_i e;cases e
  ·rename_i m xs' e
   cases e
   cases e2:intsOf xs with
   | none=>rw [e2] at h;cases h
   | some l =>
    rw [e2] at h
    simp only [Option.map_some,Option.some.injEq] at h
    subst h
    obtain ⟨hl,h2⟩:=hr
    cases us with
    | nil=>simp at hl
    | cons u us =>
     have h3:u = .int .i64 m:=h2 0 (by simp) (by simp)
     rw [h3,List.map_cons,← nH e2 ⟨by simpa using hl,fun j hj hj'=>h2 (j+1) (by simpa using hj) (by simpa using hj')⟩]
  ·cases h
theorem xP {d e:Nat} (he:P.underlying e=some (.int .i64)) {as bs:List Int}:∀ (is:List Nat),(∀ i∈is,i<as.length/\i<bs.length) ->
  (Op.eqItems (d+1) e 1 (as.map (Value.int .i64)).toArray (bs.map (Value.int .i64)).toArray is).run P w = .ok (is.all fun i=>as.getD i 0 == bs.getD i 0) w
 | [],_=>by simp [Op.eqItems]
 | i::is,h=>by
  obtain ⟨h1,h2⟩:=h i (by simp)
  have hp:P.plainKey e=true:=by simp [Program.plainKey,he]
  have p1:=run_part_plain (P:=P) w hp (xs:=(as.map (Value.int .i64)).toArray) (off:=i*1) (v := .int .i64 as[i]) (by simp [h1])
  have p2:=run_part_plain (P:=P) w hp (xs:=(bs.map (Value.int .i64)).toArray) (off:=i*1) (v := .int .i64 bs[i]) (by simp [h2])
  have p3:(Op.equalIn (d+1) e (.int .i64 as[i]) (.int .i64 bs[i])).run P w = .ok (as[i] == bs[i]) w:=by
   unfold Op.equalIn
   simp only [Sem.run_bind,run_underlying he,Result.andThen_ok,Sem.run_pure,if_true]
  have ih:=xP (d:=d) he is fun j hj=>h j (by simp [hj])
  have e1:as.getD i 0=as[i]:=by simp [h1]
  have e2:bs.getD i 0=bs[i]:=by simp [h2]
  simp only [Op.eqItems,Sem.run_bind,p1,p2,p3,Result.andThen_ok,List.all_cons,e1,e2]
  cases as[i] == bs[i]
  ·simp
  ·simp only [Bool.not_true,Bool.false_eq_true,if_false,ih,Bool.true_and]
theorem Fv {t n e:Nat} {i:TypeInfo} (h:P.underlying t=some (.array n e)) (he:P.underlying e=some (.int .i64)) (hi:P.info? e=some i) (hz:i.size=1) {as bs:List Int} (la:as.length=n) (lb:bs.length=n) :
  (Op.equal t (.agg (as.map (Value.int .i64)).toArray) (.agg (bs.map (Value.int .i64)).toArray)).run P w = .ok (decide (as=bs)) w:=by
 have hc:P.cellsOf e=1:=by simp [Program.cellsOf,hi,hz]
 have e1:(List.range n).all (fun i=>as.getD i 0 == bs.getD i 0)=decide (as=bs):=by
  rw [Bool.eq_iff_iff,List.all_eq_true,decide_eq_true_eq]
  constructor
  ·intro h
   refine List.ext_getElem (by omega) fun j h1 h2 =>?_
   have:=h j (by simp;omega)
   simpa [h1,h2] using this
  ·rintro rfl j _
   simp
 have aux:=run_equalIn_array (P:=P) w 9999 (as.map (Value.int .i64)).toArray (bs.map (Value.int .i64)).toArray h hi
 rw [hc,show (9999:Nat)=9998+1 from rfl,xP (P:=P) he (List.range n) fun j hj=>by simp at hj;omega,e1] at aux
 exact aux
theorem aeD {P : Program} {t : Nat} {f0 f1 : Field} (hu : P.underlying t = some (.struct #[f0, f1])) (n0 : f0.name ≠ "_") (n1 : f1.name ≠ "_") (h0 : f0.offset = 0) (h1 : f1.offset = 1) (e0 : P.underlying f0.type = some (.int .i64)) (e1 : P.underlying f1.type = some (.int .i64)) (hs : P.stoodInHeld t = false) (w : World) (as bs : List Int) (la : as.length = 2) (lb : bs.length = 2) :
  (Op.equal t (.agg (as.map (Value.int .i64)).toArray) (.agg (bs.map (Value.int .i64)).toArray)).run P w = .ok (decide (as=bs)) w:=by
 match as,la,bs,lb with
 | [a,b],_,[c,d],_ =>
 have k0:P.plainKey f0.type=true:=by simp [Program.plainKey,e0]
 have k1:P.plainKey f1.type=true:=by simp [Program.plainKey,e1]
 have p0:∀ (x y:Int),(part f0.type #[Value.int .i64 x,Value.int .i64 y] f0.offset).run P w = .ok (.int .i64 x) w:=fun x y=>run_part_plain (P:=P) w k0 (by rw [h0];rfl)
 have p1:∀ (x y:Int),(part f1.type #[Value.int .i64 x,Value.int .i64 y] f1.offset).run P w = .ok (.int .i64 y) w:=fun x y=>run_part_plain (P:=P) w k1 (by rw [h1];rfl)
 have q:∀ (d:Nat) (e:Nat) (x y:Int),P.underlying e=some (.int .i64)->(Op.equalIn (d+1) e (.int .i64 x) (.int .i64 y)).run P w = .ok (x == y) w:=fun d e x y he=>by
  unfold Op.equalIn
  simp only [Sem.run_bind,run_underlying he,Result.andThen_ok,Sem.run_pure,if_true]
 unfold Op.equal
 rw [show Op.maxDepth=9998+1+1 from rfl]
 unfold Op.equalIn
 simp only [Sem.run_bind,run_underlying hu,Result.andThen_ok,List.map_cons,List.map_nil]
 have q0:∀ x y,(Op.equalIn 9999 f0.type (.int .i64 x) (.int .i64 y)).run P w = .ok (x == y) w:=fun x y=>q 9998 _ x y e0
 have q1:∀ x y,(Op.equalIn 9999 f1.type (.int .i64 x) (.int .i64 y)).run P w = .ok (x == y) w:=fun x y=>q 9998 _ x y e1
 by_cases z0:a=c<;>by_cases z1:b=d<;>simp [z0,z1,hs,n0,n1,p0,p1,q0,q1]
theorem Ar {t:Nat} {op:BinOp} {x y:Operand} {us vs:Array Value} (h:P.eqGuardType P.depth t=false):(eqGuard op t x y (.agg us) (.agg vs)).run P w = .ok () w:=by
 cases op<;>simp [eqGuard,h]
theorem JE {n m:Int} (h:0<=n/\I64 n/\0<=m/\I64 m):bits .and .i64 n m=((n.toNat &&& m.toNat:Nat):Int)/\bits .or .i64 n m=((n.toNat ||| m.toNat:Nat):Int):=by
 obtain ⟨h1,h2,h3,h4⟩:=h
 unfold I64 at h2 h4
 have h:=bits_nat .i64 63 (by decide) (fun n h1 h2=>IntWalk.i64_in n ⟨by omega,by have e:(2:Int) ^ 63=9223372036854775808:=(by decide);omega⟩) n.toNat m.toNat (by have e:2 ^ 63=9223372036854775808:=(by decide);omega) (by have e:2 ^ 63=9223372036854775808:=(by decide);omega)
 rw [Int.toNat_of_nonneg h1,Int.toNat_of_nonneg h3] at h
 exact h
theorem ac1 (C:Ctx P cf φ β M H w T a) {op:BinOp} {t t':Nat} {x y:Operand} (ho:o.op = .binOp op t x y t') (hs:(qev cf H T true (.binOp op t x y t')).1):vH P a w o φ M (qev cf H T true (.binOp op t x y t')).2:=by
  have hx:=C.t x
  have hy:=C.t y
  simp only [qev] at hs ⊢
  split at hs
  · rename_i gx n gy m e1 e2
    rw [e1] at hx
    rw [e2] at hy
    obtain ⟨h1,h2,h3⟩:=hs
    have rx:a.eval x = .int .i64 n:=hx (h1 rfl)
    have ry:a.eval y = .int .i64 m:=hy (h2 rfl)
    have h4:=h3 trivial
    have hrun:∃ u,(binOp op t (.int .i64 n) (.int .i64 m)).run P w = .ok u w/\(arith op n m).2.rel φ M u:=by
      cases op<;>simp only [arith] at h4 ⊢<;>first | exact h4.elim | skip
      · exact ⟨_,by rw [binOp_add];simp only [Op.intArith,h4.wrap,Sem.run_pure],rfl⟩
      · exact ⟨_,by rw [binOp_sub];simp only [Op.intArith,h4.wrap,Sem.run_pure],rfl⟩
      · exact ⟨_,by rw [binOp_mul];simp only [Op.intArith,h4.wrap,Sem.run_pure],rfl⟩
      · obtain ⟨k1,k2,k3⟩:=h4
        have e:n.tdiv m=n / m:=Int.tdiv_eq_ediv_of_nonneg k2
        have e2:IntKind.i64.wrap (n / m)=n / m:=IntWalk.i64_in _ ⟨by have:=Int.ediv_nonneg k2 (Int.le_of_lt k3);omega,by have:=Int.ediv_le_self m k2;have:=k1.2;omega⟩
        have k4:m≠0:=by omega
        exact ⟨_,by rw [binOp_quo];simp only [Op.intDiv,k4,e,e2,if_false,Sem.run_pure],rfl⟩
      · obtain ⟨k2,k3⟩:=h4
        have e:n.tmod m=n % m:=Int.tmod_eq_emod_of_nonneg k2
        have k4:m≠0:=by omega
        exact ⟨_,by rw [binOp_rem];simp only [Op.intDiv,k4,e,if_false,Sem.run_pure],rfl⟩
      · exact ⟨_,by rw [binOp_and,intBits_and,(JE h4).1,Sem.run_pure],rfl⟩
      · exact ⟨_,by rw [binOp_or,intBits_or,(JE h4).2,Sem.run_pure],rfl⟩
      · obtain ⟨k1,k2,k3⟩:=h4
        exact ⟨_,by rw [binOp_shl,shift_shl_i64 (h₀:=k2) (h₁:=by omega),k1.wrap,Sem.run_pure],rfl⟩
      · obtain ⟨k2,k3⟩:=h4
        exact ⟨_,by rw [binOp_shr,shift_shr_i64 (h₀:=k2) (h₁:=by omega),Sem.run_pure],rfl⟩
      · exact ⟨_,by rw [binOp_eql];rfl,rfl⟩
      · exact ⟨_,by rw [binOp_neq];rfl,rfl⟩
      · exact ⟨_,by rw [binOp_lss];rfl,rfl⟩
      · exact ⟨_,by rw [binOp_leq];rfl,rfl⟩
      · exact ⟨_,by rw [binOp_gtr];rfl,rfl⟩
      · exact ⟨_,by rw [binOp_geq];rfl,rfl⟩
    obtain ⟨u,hr,hu⟩:=hrun
    refine ⟨u,?_,hu⟩
    simp only [execOp,ho,rx,ry,eqGuard_at_int,Sem.run_bind,Sem.run_pure,Result.andThen_ok,hr]
  · rename_i gx n gy m e1 e2
    rw [e1] at hx
    rw [e2] at hy
    have hty:=C.cf.ty t
    cases op<;>first | exact hs.elim | skip
    all_goals
      obtain ⟨h1,h2,h3⟩:=hs
      have rx:a.eval x = .bool n:=hx (h1 rfl)
      have ry:a.eval y = .bool m:=hy (h2 rfl)
      rw [h3 trivial] at hty
      exact ⟨_,by simp only [execOp,ho,rx,ry,eqGuard_at_bool,Sem.run_bind,Sem.run_pure,Result.andThen_ok,binOp,run_equal_bool hty]<;>rfl,rfl⟩
  · rename_i gx c gy e1 e2
    rw [e1] at hx
    rw [e2] at hy
    have hty:=C.cf.ty t
    cases op<;>first | exact hs.elim | skip
    all_goals
      obtain ⟨h1,h2,h3⟩:=hs
      obtain ⟨k5,k6,hw⟩:=h3 trivial
      have ry:a.eval y = .slice none 0 0:=hy (h2 rfl)
      obtain ⟨vs,⟨A,cap,e3,k1,k2,k3⟩,k4⟩:=B.jB.1 (hx (h1 rfl))
      have rx:a.eval x = .slice A c.len cap:=e3
      obtain ⟨u0,e4,-⟩:=k4.2.2 0 0 k6 hw
      obtain ⟨ad,rfl,-⟩:=k3 (by rintro rfl;simp at e4)
      split at k5
      · rename_i e et
        rw [et] at hty
        exact ⟨_,by simp only [execOp,ho,rx,ry,rQ,Sem.run_bind,Sem.run_pure,Result.andThen_ok,binOp,uY hty]<;>rfl,rfl⟩
      · exact k5.elim
  · rename_i gx i gy e1 e2
    rw [e1] at hx
    rw [e2] at hy
    have hty:=C.cf.ty t
    split at hs
    all_goals first | exact hs.elim | skip
    all_goals
      rename_i c hc
      obtain ⟨h1,h2,h3⟩:=hs
      obtain ⟨k5,k6⟩:=h3 trivial
      have ry:a.eval y = .slice none 0 0:=hy (h2 rfl)
      have rx:a.eval x=φ i:=hx (h1 rfl)
      obtain ⟨e',vs,k1,k2⟩:=C.hi.cn hc
      rcases k1.2 with ⟨_,k3⟩ | ⟨g',cap,cur,e3,_⟩
      · omega
      · rw [e3] at rx
        split at k5
        · rename_i e et
          rw [et] at hty
          exact ⟨_,by simp only [execOp,ho,rx,ry,rQ,Sem.run_bind,Sem.run_pure,Result.andThen_ok,binOp,uY hty]<;>rfl,rfl⟩
        · exact k5.elim
  · rename_i gx gy e1 e2
    rw [e1] at hx
    rw [e2] at hy
    have hty:=C.cf.ty t
    cases op<;>first | exact hs.elim | skip
    all_goals
      obtain ⟨h1,h2,h3⟩:=hs
      have k5:=h3 trivial
      have ry:a.eval y = .slice none 0 0:=hy (h2 rfl)
      have rx:a.eval x = .slice none 0 0:=hx (h1 rfl)
      split at k5
      · rename_i e et
        rw [et] at hty
        exact ⟨_,by simp only [execOp,ho,rx,ry,rQ,Sem.run_bind,Sem.run_pure,Result.andThen_ok,binOp,Es hty]<;>rfl,rfl⟩
      · exact k5.elim
  · rename_i gx xs gy ys e1 e2
    rw [e1] at hx
    rw [e2] at hy
    have hty:=C.cf.ty t
    split at hs
    all_goals first | exact hs.elim | skip
    all_goals first
      | (rename_i as bs n e i1 i2 i3
         obtain ⟨h1,h2,h3⟩:=hs
         obtain ⟨k1,k2,k3,k4,k5⟩:=h3 trivial
         rw [i3] at hty
         have htye:=C.cf.ty e
         rw [k1] at htye
         obtain ⟨i,hi,hz,-⟩:=C.cf.info e (by omega)
         obtain ⟨us,rx,hu⟩:=hx (h1 rfl)
         obtain ⟨vs,ry,hv⟩:=hy (h2 rfl)
         have rx':a.eval x = .agg us.toArray:=rx
         have ry':a.eval y = .agg vs.toArray:=ry
         rw [nH i1 hu] at rx'
         rw [nH i2 hv] at ry'
         have hq:=Fv (P:=P) (w:=w) (as:=as) (bs:=bs) hty htye hi (hz.trans k2) k4 k5
         exact ⟨_,by simp only [execOp,ho,rx',ry',Ar (C.cf.eqa t k3),Sem.run_bind,Sem.run_pure,Result.andThen_ok,binOp,hq]<;>rfl,rfl⟩)
      | (rename_i as bs fs i1 i2 i3
         obtain ⟨h1,h2,h3⟩:=hs
         obtain ⟨k3,k4,k5⟩:=h3 trivial
         obtain ⟨e1,e2⟩:=C.cf.eqs t k3
         obtain ⟨us,rx,hu⟩:=hx (h1 rfl)
         obtain ⟨vs,ry,hv⟩:=hy (h2 rfl)
         have rx':a.eval x = .agg us.toArray:=rx
         have ry':a.eval y = .agg vs.toArray:=ry
         rw [nH i1 hu] at rx'
         rw [nH i2 hv] at ry'
         have hq:=e2 w as bs k4 k5
         exact ⟨_,by simp only [execOp,ho,rx',ry',Ar e1,Sem.run_bind,Sem.run_pure,Result.andThen_ok,binOp,hq]<;>rfl,rfl⟩)
  · exact hs.elim
theorem aeG (C:Ctx P cf φ β M H w T a) {op:UnOp} {t:Nat} {x:Operand} (ho:o.op = .unOp op t x) (hs:(qev cf H T true (.unOp op t x)).1):vH P a w o φ M (qev cf H T true (.unOp op t x)).2:=by
 have hx:=C.t x
 simp only [qev] at hs ⊢
 split at hs
 ·rename_i gx v e
  rw [e] at hx
  have rx:a.eval x = .bool v:=hx (hs rfl)
  exact ⟨.bool (!v),by simp [execOp,ho,rx,Op.unary],rfl⟩
 ·rename_i gx n e
  rw [e] at hx
  have rx:a.eval x = .int .i64 n:=hx (hs.1 rfl)
  have h4:I64 (0-n):=by have:=hs.2 trivial;rwa [Int.zero_sub]
  exact ⟨.int .i64 (-n),by simp only [execOp,ho,rx,unary_neg,Op.intArith,h4.wrap,Sem.run_bind,Sem.run_pure,Result.andThen_ok];simp,rfl⟩
 ·exact hs.elim
theorem WQ {P:Program} {cf:Cfg} {w:World} {t e n cap wd:Nat} {ad:Addr} {i:Nat} (hcf:jP P cf) (et:cf.ty t = .slice e) (hz:cf.sz e≠0) (hw:cf.sz e=wd) (hi:i<n) :
  (Instr.indexAt t (.slice (some ad) n cap) (.int .i64 i)).run P w = .ok (.pointer (some (ad.add (i*wd)))) w:=by
 have hty:=hcf.ty t
 rw [et] at hty
 obtain ⟨inf,hinf,hsz,-⟩:=hcf.info e hz
 have hel:P.elem t=e:=by unfold Program.elem;rw [show P.underlying t=_ from hty]
 have hsize:(sizeOf e).run P w = .ok wd w:=by
  unfold sizeOf
  simp [run_typeInfo _ hinf,hsz,hw]
 rw [run_indexAt_slice (P:=P) (w:=w) t ad n cap .i64 i (by rw [hel];exact hty),if_pos ⟨by omega,by omega⟩,hel,hsize]
 simp
theorem Yx (C:Ctx P cf φ β M H w T a) {t:Nat} {x ix:Operand} (ho:o.op = .indexAddr t x ix) (hs:(qev cf H T true (.indexAddr t x ix)).1):vH P a w o φ M (qev cf H T true (.indexAddr t x ix)).2:=by
 have hx:=C.t x
 have hi:=C.t ix
 simp only [qev] at hs ⊢
 split at hs
 ·rename_i gx c gi n e1 e2
  rw [e1] at hx
  rw [e2] at hi
  split at hs
  ·rename_i e et
   obtain ⟨h1,h2,h3⟩:=hs
   obtain ⟨h3',h4,h5,h6⟩:=h3 trivial
   have ri:a.eval ix = .int .i64 n:=hi (h2 rfl)
   obtain ⟨vs,⟨A,cap,e3,k1,k2,k3⟩,k4⟩:=B.jB.1 (hx (h1 rfl))
   have e3':a.eval x = .slice A c.len cap:=e3
   obtain ⟨nn,rfl⟩:=Int.eq_ofNat_of_zero_le h5
   have hn:nn<c.len:=by omega
   have hw:0<c.w:=by omega
   obtain ⟨u0,e4,-⟩:=k4.2.2 nn 0 hn hw
   obtain ⟨ad,rfl,-⟩:=k3 (by rintro rfl;simp at e4)
   refine ⟨.pointer (some (ad.add (nn*c.w+0))),?_,by simpa using hn,ad,vs,k4,by simp,k3⟩
   simp only [execOp,ho,e3',ri,Sem.run_bind,Sem.run_pure,Result.andThen_ok,WQ C.cf et h4 h3' hn,Nat.add_zero]
  ·exact hs.elim
 ·rename_i gx i gi n e1 e2
  rw [e1] at hx
  rw [e2] at hi
  split at hs
  ·rename_i e c et hc
   obtain ⟨h1,h2,h3⟩:=hs
   obtain ⟨h3',h4,h5,h6⟩:=h3 trivial
   have ri:a.eval ix = .int .i64 n:=hi (h2 rfl)
   have rx:a.eval x=φ i:=hx (h1 rfl)
   obtain ⟨e',vs,k1,k2⟩:=C.hi.cn hc
   obtain ⟨nn,rfl⟩:=Int.eq_ofNat_of_zero_le h5
   have hn:nn<c.len:=by omega
   rcases k1.2 with ⟨_,k3⟩ | ⟨g,cap,cur,e3,_⟩
   ·omega
   ·refine ⟨.pointer (some ⟨g,nn*c.w+0,none⟩),?_,g,c.len,cap,e3,by simp⟩
    rw [e3] at rx
    have:=WQ (w:=w) (ad:=⟨g,0,none⟩) (n:=c.len) (cap:=cap) C.cf et h4 h3' hn
    rw [fG,Nat.zero_add] at this
    simp only [execOp,ho,rx,ri,Sem.run_bind,Sem.run_pure,Result.andThen_ok,this,Nat.add_zero]
  ·exact hs.elim
 ·rename_i gx l gi n _ _ e1 e2
  rw [e1] at hx
  rw [e2] at hi
  have hty:=C.cf.ty t
  split at hs
  ·rename_i m e et
   rw [et] at hty
   split at hs
   ·rename_i l' hl'
    obtain ⟨h1,h2,h3⟩:=hs
    obtain ⟨h4,h5,h6⟩:=h3 trivial
    have ri:a.eval ix = .int .i64 n:=hi (h2 rfl)
    obtain ⟨ad,e3,hl2⟩:=GV (hx (h1 rfl)) hl'
    have rx:a.eval x = .pointer (some ad):=e3
    obtain ⟨inf,hinf,hsz,-⟩:=C.cf.info e h4
    have hsize:(sizeOf e).run P w = .ok (cf.sz e) w:=by
     unfold sizeOf
     simp [run_typeInfo _ hinf,hsz]
    have hel:P.elem t=e:=by unfold Program.elem;rw [show P.underlying t=_ from hty]
    have hal:P.arrayLen t=m:=by unfold Program.arrayLen;rw [show P.underlying t=_ from hty]
    refine ⟨_,?_,hl2⟩
    simp only [execOp,ho,rx,ri,Sem.run_bind,Sem.run_pure,Result.andThen_ok,run_indexAt_array (P:=P) (w:=w) t ad .i64 n (by rw [hal,hel];exact hty),hal,hel,if_pos (And.intro h5 h6),hsize]
   ·exact hs.elim
  ·exact hs.elim
 ·exact hs.elim
theorem Sz (C:Ctx P cf φ β M H w T a) {j:Nat} {x:Operand} (ho:o.op = .extract x j) (hs:(qev cf H T true (.extract x j)).1):vH P a w o φ M (qev cf H T true (.extract x j)).2:=by
 have hx:=C.t x
 simp only [qev] at hs ⊢
 split at hs
 ·rename_i gx xs e
  rw [e] at hx
  split at hs
  ·rename_i y hy
   obtain ⟨us,e1,h1,h2⟩:=hx (hs rfl)
   obtain ⟨hj,e2⟩:=List.getElem?_eq_some_iff.1 hy
   have e1':a.eval x = .tuple us.toArray:=e1
   have hj':j<us.length:=by omega
   refine ⟨us[j],?_,?_⟩
   ·simp only [execOp,ho,e1',Instr.extract]
    simp [hj']
   ·have:=h2 j hj hj'
    rw [e2] at this
    exact this
  ·exact hs.elim
 ·exact hs.elim
theorem ZU (C:Ctx P cf φ β M H w T a) {fn:Fn} {first cap:Array Operand} (ho:o.op = .makeFunc fn first cap) (hs:(qev cf H T true (.makeFunc fn first cap)).1):vH P a w o φ M (qev cf H T true (.makeFunc fn first cap)).2:=by
 simp only [qev] at hs ⊢
 split at hs
 ·rename_i f e
  obtain rfl:first=#[]:=Array.toList_inj.1 e
  refine ⟨.func (.func f) #[] (cap.map a.eval),by simp [execOp,ho,Instr.makeFunc],(cap.toList.map a.eval),?_,by simp,fun j h h' =>?_⟩
  ·congr 1
   apply Array.toList_inj.1
   simp
  ·have hj:j<cap.toList.length:=by simpa using h
   obtain ⟨h1,l,h2⟩:=hs _ (List.getElem_mem hj)
   have hr:=C.t _ (h1 rfl)
   rw [h2] at hr
   simp only [List.getElem_map,h2]
   exact hr
 ·rename_i f x e
  obtain rfl:first=#[x]:=Array.toList_inj.1 e
  split at hs
  ·rename_i gx ls ec ex
   obtain rfl:cap=#[]:=Array.toList_inj.1 ec
   split at hs
   ·rename_i ms em
    have hr:=C.t x
    rw [ex] at hr
    obtain ⟨us,hu,hl,hk⟩:=hr (hs rfl)
    subst_vars
    obtain rfl:=Kr em
    simp only [em]
    refine ⟨.func (.func f) #[.agg us.toArray] #[],by simp [execOp,ho,Instr.makeFunc,hu],us,rfl,by simpa using hl,fun j h h' =>?_⟩
    have:=hk j (by simpa using h) h'
    rw [List.getElem_map] at this
    exact this
   ·exact hs.elim
  ·exact hs.elim
 ·exact hs.elim
theorem KO (hH:HI φ β M H w) {v:AV} {u:Value} {n:Nat} (hv:v.rel φ M u) (hn:lenOf H v=some n):∃ A c,u = .slice A n c:=by
 unfold lenOf at hn
 split at hn
 ·cases hn
  obtain ⟨vs,⟨A,cap,e,_⟩,_⟩:=B.jB.1 hv
  exact ⟨A,cap,e⟩
 ·cases hn
  obtain ⟨vs,⟨A,cap,e,_⟩,_⟩:=hv
  exact ⟨A,cap,e⟩
 ·rename_i i
  split at hn
  ·rename_i c hc
   cases hn
   obtain ⟨e,vs,k1,k2⟩:=hH.cn hc
   rcases k1.2 with ⟨k3,k4⟩ | ⟨g,cap,cur,e3,_⟩
   ·exact ⟨none,0,by rw [hv,k3,k4]⟩
   ·exact ⟨_,cap,by rw [hv,e3]⟩
  ·cases hn
 ·cases hn
  exact ⟨_,_,hv⟩
 ·cases hn
theorem Uw {ρ:Operand->Value} {o:Oper} {x:Operand} {t:Nat} {A:Option Addr} {n cap:Nat} (ho:o.op = .call { callee := .builtin .len,args:=#[x],argTypes:=#[t] }) (e:ρ x = .slice A n cap) (h:P.underlying t=some (.slice (P.elem t))) :
  (execOp ρ o).run P w = .ok (.value (.int .i64 n)) w:=by
 simp only [execOp,ho,resolve,invoke,List.map_toArray,List.map_cons,List.map_nil,e,Sem.run_bind,Sem.run_pure,Result.andThen_ok]
 simp only [builtin,run_len_slice _ _ _ _ _ _ h,Sem.run_bind,Sem.run_pure,Result.andThen_ok,goInt]
theorem Ux {ρ:Operand->Value} {o:Oper} {x y:Operand} {ts:Array Nat} {n m:Int} (ho:o.op = .call { callee := .builtin .max,args:=#[x,y],argTypes:=ts }) (e:ρ x = .int .i64 n) (e':ρ y = .int .i64 m) :
  (execOp ρ o).run P w = .ok (.value (.int .i64 (max n m))) w:=by
 have h:(if m > n then m else n)=max n m:=by rw [Int.max_def];split<;>split<;>omega
 rw [← h]
 simp only [execOp,ho,resolve,invoke,List.map_toArray,List.map_cons,List.map_nil,e,e',Sem.run_bind,Sem.run_pure,Result.andThen_ok]
 simp only [builtin,run_max_int2,run_min_int2,Sem.run_bind,Sem.run_pure,Result.andThen_ok]
theorem Uy {ρ:Operand->Value} {o:Oper} {x y:Operand} {ts:Array Nat} {n m:Int} (ho:o.op = .call { callee := .builtin .min,args:=#[x,y],argTypes:=ts }) (e:ρ x = .int .i64 n) (e':ρ y = .int .i64 m) :
  (execOp ρ o).run P w = .ok (.value (.int .i64 (min n m))) w:=by
 have h:(if m<n then m else n)=min n m:=by rw [Int.min_def];split<;>split<;>omega
 rw [← h]
 simp only [execOp,ho,resolve,invoke,List.map_toArray,List.map_cons,List.map_nil,e,e',Sem.run_bind,Sem.run_pure,Result.andThen_ok]
 simp only [builtin,run_max_int2,run_min_int2,Sem.run_bind,Sem.run_pure,Result.andThen_ok]
theorem ZT (C:Ctx P cf φ β M H w T a) {c:Call} (ho:o.op = .call c) (hs:(qev cf H T true (.call c)).1):vH P a w o φ M (qev cf H T true (.call c)).2:=by
 obtain ⟨cl,⟨as⟩,⟨ts⟩⟩:=c
 simp only [qev] at hs ⊢
 split at hs
 ·rename_i x t
  have hx:=C.t x
  have hty:=C.cf.ty t
  split at hs
  ·rename_i gx v e e1 e2
   rw [e1] at hx
   rw [e2] at hty
   split at hs
   ·rename_i n hn
    obtain ⟨A,cap,e3⟩:=KO C.hi (hx (hs rfl)) hn
    have hel:P.elem t=e:=by unfold Program.elem;rw [show P.underlying t=_ from hty]
    have hel2:P.underlying t=some (.slice (P.elem t)):=by rw [hel];exact hty
    exact ⟨.int .i64 n,Uw ho e3 hel2,rfl⟩
   ·exact hs.elim
  ·exact hs.elim
 ·rename_i x y
  have hx:=C.t x
  have hy:=C.t y
  split at hs
  ·rename_i gx n gy m e1 e2
   rw [e1] at hx
   rw [e2] at hy
   have rx:a.eval x = .int .i64 n:=hx (hs.1 rfl)
   have ry:a.eval y = .int .i64 m:=hy (hs.2 rfl)
   exact ⟨.int .i64 (max n m),Ux ho rx ry,rfl⟩
  ·exact hs.elim
 ·rename_i x y
  have hx:=C.t x
  have hy:=C.t y
  split at hs
  ·rename_i gx n gy m e1 e2
   rw [e1] at hx
   rw [e2] at hy
   have rx:a.eval x = .int .i64 n:=hx (hs.1 rfl)
   have ry:a.eval y = .int .i64 m:=hy (hs.2 rfl)
   exact ⟨.int .i64 (min n m),Uy ho rx ry,rfl⟩
  ·exact hs.elim
 ·exact hs.elim
theorem Dc {α β:Type} {f g:β->α->β}:∀ {l:List α} (b:β),(∀ b,∀ a∈l,f b a=g b a)->l.foldl f b=l.foldl g b
 | [],_,_=>rfl
 | x::l,b,h=>by rw [List.foldl_cons,List.foldl_cons,h b x List.mem_cons_self];exact Dc _ fun b a ha=>h b a (List.mem_cons_of_mem _ ha)
theorem X7 (hcf:jP P cf) {t:Nat} (hz:cf.sz t≠0) {j:TypeInfo} (hj:P.info? t=some j):j.size=cf.sz t:=by
 obtain ⟨i,h1,h2,-⟩:=hcf.info t hz
 rw [h1] at hj
 cases hj
 exact h2
theorem Qe {α β:Type} {f:α->Option β}:∀ {xs:List α},(∀ x∈xs,∃ y,f x=some y)->∃ ys,xs.mapM f=some ys/\ys.length=xs.length/\∀ (j:Nat) (x:α),xs[j]? = some x->∃ y,ys[j]? = some y/\f x=some y
 | [],_=>⟨[],rfl,rfl,fun j x h=>by simp at h⟩
 | x::xs,h=>by
  obtain ⟨y,e⟩:=h x List.mem_cons_self
  obtain ⟨ys,h1,h2,h3⟩:=Qe (xs:=xs) fun z hz=>h z (List.mem_cons_of_mem _ hz)
  refine ⟨y::ys,by rw [List.mapM_cons];simp [e,h1],by simp [h2],fun j z hz =>?_⟩
  match j with
  | 0=>simp at hz;subst hz;exact ⟨y,rfl,e⟩
  | j+1=>exact h3 j z (by simpa using hz)
theorem TQ (hcf:jP P cf) {t:Nat} (hz:cf.sz t≠0) (hb:xG cf t) {ps:List (Nat×Value)} (hp:∀ p∈ps,∃ off,nN cf t p.1=some (off,p.2.cells.size)/\p.2.cells.size≠0/\off+p.2.cells.size<=cf.sz t) :
  ∃ r,P.built t ps=some r/\r.size=cf.sz t/\r.toList=ps.foldl (fun l p=>splice l ((nN cf t p.1).getD (0,0)).1 p.2.cells.toList) (cf.zero t):=by
 obtain ⟨it,hit,hsz,-,z,hz1,hz2,hz3⟩:=hcf.info t hz
 have hty:=hcf.ty t
 have key:∀ place:Nat->Option (Nat×Nat),(∀ p∈ps,place p.1=nN cf t p.1)->∃ r,Instr.fill place z.cells ps=some r/\r.size=cf.sz t/\r.toList=ps.foldl (fun l p=>splice l ((nN cf t p.1).getD (0,0)).1 p.2.cells.toList) (cf.zero t):=fun place hpl=>by
  obtain ⟨r,r1,r2,r3⟩:=CY (place:=place) ps z.cells fun p hp'=>by
   obtain ⟨off,k1,_,k2⟩:=hp p hp'
   exact ⟨off,by rw [hpl p hp',k1],by rw [hz3];exact k2⟩
  refine ⟨r,r1,r2.trans hz3,?_⟩
  rw [r3,hz2]
  exact Dc _ fun l p hp'=>by rw [hpl p hp']
 unfold Program.built
 unfold xG at hb
 cases e:cf.ty t<;>rw [e] at hty hb<;>try exact hb.elim
 case struct fs =>
  obtain ⟨F,hF,hlen,hfs⟩:=hty
  have hall:∀ f∈F.toList,∃ y,((P.info? f.type).map fun i=>(f.offset,i.size))=some y:=fun f hf=>by
   obtain ⟨j,hj,rfl⟩:=List.mem_iff_getElem.1 hf
   have hj':j<fs.length:=by rw [← hlen];simpa using hj
   obtain ⟨f',h1,_,h3,i,h4,_⟩:=hfs j fs[j].1 fs[j].2 (by rw [List.getElem?_eq_getElem hj'])
   rw [← Array.getElem?_toList,List.getElem?_eq_getElem hj] at h1
   cases h1
   exact ⟨(F.toList[j].offset,i.size),by rw [h3,h4];rfl⟩
  obtain ⟨places,m1,m2,m3⟩:=Qe hall
  simp only [hit,hF,hz1,m1]
  refine key _ fun p hp' =>?_
  obtain ⟨off,k1,k2,k3⟩:=hp p hp'
  rw [k1]
  unfold nN at k1
  rw [e] at k1
  simp only at k1
  split at k1
  ·rename_i f hf
   simp only [Option.some.injEq,Prod.mk.injEq] at k1
   obtain ⟨k4,k5⟩:=k1
   obtain ⟨f',h1,h2,h3,i,h4,_⟩:=hfs p.1 f.1 f.2 hf
   rw [← Array.getElem?_toList] at h1
   obtain ⟨y,y1,y2⟩:=m3 _ _ h1
   rw [h3,h4] at y2
   simp only [Option.map_some,Option.some.injEq] at y2
   rw [← List.getElem?_toArray] at y1
   rw [y1,← y2,h2,k4,X7 hcf (by rw [k5];exact k2) h4,k5]
  ·cases k1
 case arr n el =>
  have hu:P.underlying t=some (.array n el):=hty
  obtain ⟨ie,hie,hes,-⟩:=hcf.info el hb
  simp only [hit,hu,hz1,hie]
  refine key _ fun p hp' =>?_
  obtain ⟨off,k1,k2,k3⟩:=hp p hp'
  rw [k1]
  unfold nN at k1
  rw [e] at k1
  simp only at k1
  cases hbl:Nat.blt p.1 n with
  | false=>rw [hbl] at k1;cases k1
  | true =>
   rw [hbl] at k1
   simp only [cond_true,Option.some.injEq,Prod.mk.injEq] at k1
   rw [hes,k1.1,k1.2]
theorem Gz (C:Ctx P cf φ β M H w T a) {t n:Nat}:∀ {l:List (Nat×Operand)} {ps:List (Bool×Nat×Nat×TV)} {cs:List Lf} {us:List Value},l.mapM (sV cf T t)=some ps ->
  (∀ p∈ps,need true p.1/\(True->p.2.2.2.cs.length=p.2.2.1/\p.2.2.1≠0/\p.2.2.2.cs.all (Lf.dU H)=true/\p.2.1+p.2.2.1<=n))->cs.length=n->gQ φ M cs us ->
  (∀ q∈l.map (fun p=>(p.1,a.eval p.2)),∃ off,nN cf t q.1=some (off,q.2.cells.size)/\q.2.cells.size≠0/\off+q.2.cells.size<=n) /\
   gQ φ M (ps.foldl (fun l p=>splice l p.2.1 p.2.2.2.cs) cs) ((l.map (fun p=>(p.1,a.eval p.2))).foldl (fun l p=>splice l ((nN cf t p.1).getD (0,0)).1 p.2.cells.toList) us)
 | [],ps,cs,us,hm,_,_,hr=>by
  simp at hm
  subst hm
  exact ⟨fun q hq=>by simp at hq,hr⟩
 | p::l,ps,cs,us,hm,hc,hn,hr=>by
  rw [List.mapM_cons] at hm
  cases e1:sV cf T t p with
  | none=>simp [e1] at hm
  | some q =>
   cases e2:l.mapM (sV cf T t) with
   | none=>simp [e1,e2] at hm
   | some qs =>
    simp [e1,e2] at hm
    subst hm
    obtain ⟨h1,h2⟩:=hc q List.mem_cons_self
    obtain ⟨h3,h4,h5,h6⟩:=h2 trivial
    unfold sV at e1
    split at e1
    ·rename_i gx v hv
     split at e1
     ·rename_i off sz hpl
      cases e1
      simp only at h1 h3 h4 h5 h6
      have hrel:=C.t p.2 (by rw [hv];exact h1 rfl)
      rw [hv] at hrel
      have hls:=yZ hrel fun x ex=>by
       rw [ex] at h5 hrel
       exact nK C.hi (by simpa [TV.cs] using h5) hrel
      have hsz:(a.eval p.2).cells.size=sz:=by
       have:=hls.1
       rw [h3] at this
       simpa using this
      obtain ⟨r1,r2⟩:=Gz C (t:=t) (n:=n) (l:=l) (cs:=splice cs off v.cs) (us:=splice us off (a.eval p.2).cells.toList) e2 (fun p hp=>hc p (List.mem_cons_of_mem _ hp)) (by rw [cO,hn]) (hr.splice hls (by omega))
      refine ⟨fun q hq =>?_,?_⟩
      ·rcases List.mem_cons.1 hq with rfl | hq
       ·exact ⟨off,by rw [hsz];exact hpl,by rw [hsz];exact h4,by rw [hsz];exact h6⟩
       ·exact r1 q hq
      ·simpa [hpl] using r2
     ·cases e1
    ·cases e1
theorem Yv (C:Ctx P cf φ β M H w T a) {t:Nat} {parts:Array (Nat×Operand)} (ho:o.op = .build t parts) (hs:(qev cf H T true (.build t parts)).1):vH P a w o φ M (qev cf H T true (.build t parts)).2:=by
 simp only [qev] at hs ⊢
 split at hs
 ·rename_i ps hps
  obtain ⟨h1,h2⟩:=hs
  obtain ⟨h3,h4⟩:=h2 trivial
  obtain ⟨it,hit,hsz,-,z,hz1,hz2,hz3⟩:=C.cf.info t h3
  have hzl:(cf.zero t).length=cf.sz t:=by rw [← hz2,← hz3];simp
  obtain ⟨r1,r2⟩:=Gz C (n:=cf.sz t) (cs:=(cf.zero t).map fun v => .b (.val v)) (us:=cf.zero t) hps h1 (by rw [List.length_map,hzl]) ⟨by simp,fun j hj hj'=>by simp [Lf.rel,B.rel]⟩
  obtain ⟨r,k1,k2,k3⟩:=TQ C.cf h3 h4 r1
  refine ⟨.agg r,?_,r.toList,by simp,by rw [k3];exact r2⟩
  have hrun:=run_build (P:=P) w t (parts.map fun (p:Nat×Operand)=>(p.1,a.eval p.2)) r (by rw [Array.toList_map];exact k1)
  simp only [execOp,ho,Sem.run_bind,hrun,Result.andThen_ok,Sem.run_pure]
 ·exact hs.elim
theorem RdM.part {M:Mem} {ad:Addr} {vs:List Value} {a b:Nat} (hr:RdM M (some ad) vs):RdM M (some (ad.add a)) ((vs.take b).drop a):=fun hne=>by
 have hvs:vs≠[]:=by rintro rfl;simp at hne
 obtain ⟨ad',e,hc⟩:=hr hvs
 cases e
 refine ⟨_,rfl,fun j hj =>?_⟩
 simp only [List.length_drop,List.length_take] at hj
 have:=hc (a+j) (by omega)
 rw [show (ad.add a).add j=ad.add (a+j) from add2 ..]
 simpa using this
theorem uH (y:Nat) (code:BoundsCode) {n:Int} (h0:0<=n) (h1:n<=y):(Instr.sliceBound (.int .i64 n) y code).run P w = .ok n.toNat w:=by
 simp [Instr.sliceBound,asIntOf,h0,h1,go_sem]
theorem O7 (C:Ctx P cf φ β M H w T a) {d:Nat} {lo:Option Operand} {g1:Bool} {l:Int} (hb:mY T d lo=some (g1,l)) (hg:g1=true):(lo=none/\l=d)\/∃ x,lo=some x/\a.eval x = .int .i64 l:=by
 unfold mY at hb
 split at hb
 ·simp only [Option.some.injEq,Prod.mk.injEq] at hb
  exact .inl ⟨rfl,hb.2.symm⟩
 ·rename_i x
  split at hb
  ·rename_i gx n e
   simp only [Option.some.injEq,Prod.mk.injEq] at hb
   obtain ⟨rfl,rfl⟩:=hb
   have hx:=C.t x
   rw [e] at hx
   exact .inr ⟨x,rfl,hx hg⟩
  ·cases hb
theorem Yy (C:Ctx P cf φ β M H w T a) {t:Nat} {x:Operand} {lo hi:Option Operand} (ho:o.op = .slice t x lo hi none) (hs:(qev cf H T true (.slice t x lo hi none)).1):vH P a w o φ M (qev cf H T true (.slice t x lo hi none)).2:=by
 have hx:=C.t x
 have hty:=C.cf.ty t
 simp only [qev] at hs ⊢
 split at hs
 ·rename_i gx c e e1 et
  rw [e1] at hx
  rw [et] at hty
  split at hs
  ·rename_i g1 l g2 h hb1 hb2
   obtain ⟨h1,h2,h3,h4⟩:=hs
   obtain ⟨k1,k2,k3,k4,k5⟩:=h4 trivial
   obtain ⟨vs,⟨A,cap,e3,k6,k7,k8⟩,k9⟩:=B.jB.1 (hx (h1 rfl))
   have rx:a.eval x = .slice A c.len cap:=e3
   obtain ⟨inf,hinf,hsz,-⟩:=C.cf.info e k2
   have hsize:(sizeOf e).run P w = .ok c.w w:=by
    unfold sizeOf
    simp [run_typeInfo _ hinf,hsz,k1]
   have hbs:(Instr.sliceBounds true c.len cap (lo.map a.eval) (hi.map a.eval) none).run P w = .ok (l.toNat,h.toNat,cap) w:=by
    rcases O7 C hb1 (h2 rfl) with ⟨rfl,rfl⟩ | ⟨xl,rfl,rl⟩<;>rcases O7 C hb2 (h3 rfl) with ⟨rfl,rfl⟩ | ⟨xh,rfl,rh⟩
    ·simp [Instr.sliceBounds,go_sem]
    ·have q2:=uH (P:=P) (w:=w) cap .sliceAcap (n:=h) (by omega) (by omega)
     simp only [Option.map_some,Option.map_none,rh]
     simp [Instr.sliceBounds,q2,go_sem]
    ·have q1:=uH (P:=P) (w:=w) c.len .sliceB (n:=l) (by omega) (by omega)
     simp only [Option.map_some,Option.map_none,rl]
     simp [Instr.sliceBounds,q1,go_sem]
    ·have q2:=uH (P:=P) (w:=w) cap .sliceAcap (n:=h) (by omega) (by omega)
     have q1:=uH (P:=P) (w:=w) h.toNat .sliceB (n:=l) (by omega) (by omega)
     simp only [Option.map_some,rl,rh]
     simp only [Instr.sliceBounds,Sem.run_bind,Sem.run_pure,Result.andThen_ok,if_true,Option.isSome_none,Bool.false_eq_true,if_false,q2,q1]
   have hrun:(execOp a.eval o).run P w = .ok (.value (.slice (if cap=l.toNat then A else A.map (·.add (l.toNat*c.w))) (h.toNat-l.toNat) (cap-l.toNat))) w:=by
    simp only [execOp,ho,Option.map_none,Instr.sliceAt,Instr.slice,rx,Sem.run_bind,run_underlying hty,Result.andThen_ok,hbs,hsize,Sem.run_pure]
   refine ⟨_,hrun,B.jB.2 ⟨_,⟨(if cap=l.toNat then A else A.map (·.add (l.toNat*c.w))),cap-l.toNat,by rw [c.yJ (by omega)],?_,?_,?_⟩,c.V5 k9 (l:=l.toNat) (h:=h.toNat) (by omega) (by omega)⟩⟩
   ·rw [c.yJ (by omega)];omega
   ·omega
   ·intro hne
    have hne':vs≠[]:=by rintro rfl;simp at hne
    obtain ⟨ad,rfl,k10⟩:=k8 hne'
    have hcap:¬ cap=l.toNat:=fun e'=>by
     have hl2:=k9.2.1
     have hh:h.toNat=l.toNat:=by omega
     apply hne
     rw [hh]
     refine List.drop_eq_nil_of_le ?_
     rw [List.length_take]
     omega
    rw [if_neg hcap]
    exact (RdM.part (M:=M) (ad:=ad) (vs:=vs) fun _=>⟨ad,rfl,k10⟩) hne
  ·exact hs.elim
 ·exact hs.elim
theorem Yz (C:Ctx P cf φ β M H w T a) (hs:(qev cf H T true o.op).1):vH P a w o φ M (qev cf H T true o.op).2:=by
 cases ho:o.op
 all_goals rw [ho] at hs
 case move x=>exact Wq C (.inl ho) (hs rfl)
 case assign x=>exact Wq C (.inr ho) (hs rfl)
 case pick=>exact ZV C ho hs
 case load=>exact Wp C ho hs
 case nilCheck=>exact ac3 C ho hs
 case binOp=>exact ac1 C ho hs
 case unOp=>exact aeG C ho hs
 case makeFunc=>exact ZU C ho hs
 case fieldAddr=>exact Yw C ho hs
 case indexAddr=>exact Yx C ho hs
 case extract=>exact Sz C ho hs
 case field=>exact ac2 C ho hs
 case build=>exact Yv C ho hs
 case call=>exact ZT C ho hs
 case slice t x lo hi mx =>
  cases mx with
  | none=>exact Yy C ho hs
  | some m=>exact hs.elim
 all_goals exact hs.elim
end
end
end Am
end Go.Proofs.YtnblieajjclipaaGreat
namespace Go.Proofs.YtnblieajjclipaaGreat
namespace Am
open Go Go.RowKit
theorem AV.dL {n:Nat} {x:Lf}:AV.lt n (.tv (.one x))↔x.ltB n=true:=by simp [AV.lt,AV.leaves,TV.leaves]
theorem AV.lK {n:Nat} {v:Value}:AV.lt n (.tv (.one (.b (.val v)))):=by simp [AV.lt,AV.leaves,TV.leaves,Lf.ltB]
theorem Bq {T:Tm} {n:Nat} (hT:∀ t,(T t).2.lt n) (x:Operand):(look T x).2.lt n:=by
 cases x with
 | tmp t=>exact hT t
 | const v=>exact AV.lK
 | func f=>intro y hy;simp [look,AV.leaves] at hy
 | global g=>simp [look,AV.lt,AV.leaves,TV.leaves,Lf.ltB]
theorem bM {n:Nat}:AV.lt n .und:=by simp [AV.lt,AV.leaves,TV.leaves,Lf.ltB]
theorem Zm {H:List Ob} {n:Nat} (hw:∀ (i:Nat) (o:Ob),H[i]? = some o->o.lt n) {l:Lf} {s:Prop} {wd o:Nat} {cell:Nat->Lf} (ha:adr H l=some (s,wd,o,cell)):∀ t,(cell t).ltB n=true:=by
 intro t
 cases l with
 | und=>simp [adr] at ha
 | b x=>simp [adr] at ha
 | own i=>simp [adr] at ha
 | ptr i o' =>
  simp only [adr] at ha
  split at ha
  ·rename_i cs hcs
   simp only [Option.some.injEq,Prod.mk.injEq] at ha
   obtain ⟨rfl,rfl,rfl,rfl⟩:=ha
   show (cs.getD t .und).ltB n=true
   rw [List.getD_eq_getElem?_getD]
   cases h:cs[t]? with
   | none=>rfl
   | some y=>exact hw i _ hcs y (List.mem_of_getElem? h)
  ·cases ha
 | ea c j o' =>
  simp only [adr,Option.some.injEq,Prod.mk.injEq] at ha
  obtain ⟨rfl,rfl,rfl,rfl⟩:=ha
  rfl
 | oa i wd' j o' =>
  simp only [adr] at ha
  split at ha
  ·simp only [Option.some.injEq,Prod.mk.injEq] at ha
   obtain ⟨rfl,rfl,rfl,rfl⟩:=ha
   rfl
  ·rename_i e es c k x hc
   simp only [Option.some.injEq,Prod.mk.injEq] at ha
   obtain ⟨rfl,rfl,rfl,rfl⟩:=ha
   exact hw i _ hc
  ·rename_i e e2 c k x hc
   simp only [Option.some.injEq,Prod.mk.injEq] at ha
   obtain ⟨rfl,rfl,rfl,rfl⟩:=ha
   show Lf.ltB n (bif Nat.beq j k then x else .b (c.cell j 0))=true
   cases e:Nat.beq j k with
   | true=>exact hw i _ hc
   | false=>rfl
  ·cases ha
 | ip xs o' =>
  simp only [adr,Option.some.injEq,Prod.mk.injEq] at ha
  obtain ⟨rfl,rfl,rfl,rfl⟩:=ha
  rfl
theorem LQ {n off:Nat} {l l':Lf} (h:l.ltB n=true) (e:step1 off l=some l'):l'.ltB n=true:=by
 cases l<;>simp [step1] at e<;>subst e<;>exact h
theorem mapM_mem {α β:Type} {f:α->Option β}:∀ {xs:List α} {ys:List β},xs.mapM f=some ys->∀ y∈ys,∃ x∈xs,f x=some y
 | [],ys,h,y,hy=>by simp at h;subst h;simp at hy
 | x::xs,ys,h,y,hy=>by
  rw [List.mapM_cons] at h
  cases e:f x with
  | none=>simp [e] at h
  | some z =>
   cases e2:xs.mapM f with
   | none=>simp [e,e2] at h
   | some zs =>
    simp [e,e2] at h
    subst h
    rcases List.mem_cons.1 hy with rfl | hy
    ·exact ⟨x,List.mem_cons_self,e⟩
    ·obtain ⟨x',h1,h2⟩:=mapM_mem e2 y hy
     exact ⟨x',List.mem_cons_of_mem _ h1,h2⟩
theorem qW {y:Lf}:∀ {ps:List (Bool×Nat×Nat×TV)} {cs:List Lf},y∈ps.foldl (fun l p=>splice l p.2.1 p.2.2.2.cs) cs->y∈cs\/∃ p∈ps,y∈p.2.2.2.cs
 | [],cs,h => .inl h
 | p::ps,cs,h=>by
  rw [List.foldl_cons] at h
  rcases qW h with h | ⟨q,h1,h2⟩
  ·rcases wO h with h | h
   ·exact .inl h
   ·exact .inr ⟨p,List.mem_cons_self,h⟩
  ·exact .inr ⟨q,List.mem_cons_of_mem _ h1,h2⟩
theorem q_lt {cf:Cfg} {H:List Ob} {T:Tm} {g:Bool} {n:Nat} (hw:∀ (i:Nat) (o:Ob),H[i]? = some o->o.lt n) (hT:∀ t,(T t).2.lt n) (op:Op):(qev cf H T g op).2.lt n:=by
 have hl:=Bq hT
 cases op<;>simp only [qev]<;>try exact bM
 case move x=>exact hl x
 case assign x=>exact hl x
 case nilCheck x =>
  have:=hl x
  split<;>first | exact bM | (rename_i e;rw [e] at this;exact this)
 case pick c a b=>split<;>first | exact bM | exact AV.lK
 case load t x =>
  split
  ·split
   ·rename_i ha
    have h:=Zm hw ha
    cases (cf.ty t).agg
    ·exact AV.dL.2 (h _)
    ·intro y hy
     simp [AV.leaves,TV.leaves] at hy
     obtain ⟨j,_,rfl⟩:=hy
     exact h _
   ·exact bM
  ·exact bM
 case binOp op t x y t' =>
  split
  ·cases op<;>first | exact AV.lK | exact bM
  ·cases op<;>first | exact AV.lK | exact bM
  ·cases op<;>first | exact AV.lK | exact bM
  ·split<;>first | exact AV.lK | exact bM
  ·cases op<;>first | exact AV.lK | exact bM
  ·split<;>first | exact AV.lK | exact bM
  ·exact bM
 case slice t x lo hi mx =>
  cases mx with
  | none =>
   dsimp only
   split
   ·split<;>first | exact AV.dL.2 rfl | exact bM
   ·exact bM
  | some m=>exact bM
 case unOp op t x=>split<;>first | exact bM | exact AV.lK
 case makeFunc fn first cap =>
  split
  ·intro y hy
   simp only [AV.leaves,List.mem_map] at hy
   obtain ⟨x,_,rfl⟩:=hy
   have:=hl x
   split
   ·rename_i e;rw [e] at this;exact AV.dL.1 this
   ·rfl
  ·split
   ·split
    ·exact AV.dL.2 rfl
    ·exact bM
   ·exact bM
  ·exact bM
 case fieldAddr s x f =>
  have:=hl x
  split
  ·rename_i e
   rw [e] at this
   split
   ·split
    ·rename_i hl'
     have h1:=AV.dL.1 this
     exact AV.dL.2 (LQ h1 hl')
    ·exact bM
   ·exact bM
  ·exact bM
 case indexAddr t x ix =>
  have:=hl x
  split
  ·split<;>first | exact bM | exact AV.dL.2 rfl
  ·rename_i e _
   rw [e] at this
   split<;>first | exact bM | (have h2:=AV.dL.1 this;exact AV.dL.2 (by simpa [Lf.ltB] using h2))
  ·rename_i e _
   rw [e] at this
   split
   ·split
    ·rename_i hl'
     have h1:=AV.dL.1 this
     exact AV.dL.2 (LQ h1 hl')
    ·exact bM
   ·exact bM
  ·exact bM
 case build t parts =>
  split
  ·rename_i ps hps
   intro y hy
   rcases qW hy with h | ⟨p,h1,h2⟩
   ·simp only [List.mem_map] at h
    obtain ⟨v,_,rfl⟩:=h
    rfl
   ·obtain ⟨q,h3,h4⟩:=mapM_mem hps p h1
    unfold sV at h4
    have:=hl q.2
    split at h4
    ·rename_i gx v hv
     rw [hv] at this
     split at h4
     ·cases h4
      refine this y ?_
      cases v with
      | one x=>simpa [AV.leaves,TV.leaves,TV.cs] using h2
      | agg xs=>simpa [AV.leaves,TV.leaves,TV.cs] using h2
     ·cases h4
    ·cases h4
  ·exact bM
 case field s x f =>
  split
  ·rename_i fs gx xs e1 e2
   have h:=hl x
   rw [e2] at h
   split
   ·rename_i off t' hf
    split
    ·rename_i l hl'
     cases (cf.ty t').agg
     ·exact AV.dL.2 (h l (by simp only [AV.leaves,TV.leaves];exact List.mem_of_getElem? hl'))
     ·exact bM
    ·exact bM
   ·exact bM
  ·exact bM
 case extract x j =>
  have:=hl x
  split
  ·rename_i e
   rw [e] at this
   split
   ·rename_i xs y hy
    intro z hz
    refine this z ?_
    simp only [AV.leaves,List.mem_flatMap] at hz ⊢
    exact ⟨y,List.mem_of_getElem? hy,hz⟩
   ·exact bM
  ·exact bM
 case call c =>
  split
  ·split
   ·split<;>first | exact bM | exact AV.lK
   ·exact bM
  ·split<;>first | exact bM | exact AV.lK
  ·split<;>first | exact bM | exact AV.lK
  ·exact bM
structure St where
 T:Tm
 H:List Ob
def Tm.put (T:Tm) (d:Option Nat) (v:Bool×AV):Tm:=match d with
 | some t=>fun s=>bif Nat.beq s t then v else T s
 | none=>T
theorem Qw (L:List (Nat×Bool×AV)) (t:Nat) (v:Bool×AV):(tab L).put (some t) v=tab ((t,v)::L):=rfl
theorem Lm (T:Tm) (v:Bool×AV):T.put none v=T:=rfl
structure Base where
 M0:Mem
 w0:World
 S:Nat->Prop
 φ0:Nat->Value
 fx:List Bool
 ds:List Deferred
abbrev base0 (M0:Mem) (w0:World):Base:=⟨M0,w0,fun _=>False,fun _=>undef,[],[]⟩
structure Kept (S:Nat->Prop) (w w':World):Prop where
 os:w'.os=w.os
 tape:w'.tape=w.tape
 output:w'.output=w.output
 size:w.heap.size<=w'.heap.size
 block:∀ k,k<w.heap.size->¬ S k->w'.heap[k]? = w.heap[k]?
theorem Kept.refl (S:Nat->Prop) (w:World):Kept S w w:=⟨rfl,rfl,rfl,Nat.le_refl _,fun _ _ _=>rfl⟩
theorem Kept.below {S:Nat->Prop} {w0 w w':World} (h:Kept S w0 w) (hb:Below w.heap.size w w'):Kept S w0 w' :=
 ⟨hb.os.trans h.os,hb.tape.trans h.tape,hb.output.trans h.output,Nat.le_trans h.size hb.size,fun k hk hs=>(hb.block k (Nat.lt_of_lt_of_le hk h.size)).trans (h.block k hk hs)⟩
theorem Kept.trans {S S':Nat->Prop} {w0 w w':World} (h:Kept S w0 w) (h':Kept S' w w') (hs:∀ g,S' g->w0.heap.size<=g\/S g):Kept S w0 w' :=
 ⟨h'.os.trans h.os,h'.tape.trans h.tape,h'.output.trans h.output,Nat.le_trans h.size h'.size,fun k hk hn=>(h'.block k (Nat.lt_of_lt_of_le hk h.size) fun e=>by rcases hs k e with h1 | h1;omega;exact hn h1).trans (h.block k hk hn)⟩
theorem Kept.EN {S:Nat->Prop} {w w':World} (h:Kept S w w') (hs:∀ g,¬ S g):Below w.heap.size w w':=⟨h.os,h.tape,h.output,h.size,fun k hk=>h.block k hk (hs k)⟩
structure RA (P:Program) (cf:Cfg) (b:Base) (N:Nat) (φ:Nat->Value) (β:Nat->Nat->Prop) (M:Mem) (X:St) (a:Act) (w:World):Prop where
 cf:jP P cf
 le:b.M0.le M
 new:∀ ad v,M ad=some v->b.M0 ad=some v\/b.w0.heap.size<=ad.block\/b.S ad.block
 hi:HI φ β M X.H w
 t:∀ t,((X.T t).1=true->(X.T t).2.rel φ M (a.tmps.getD t undef))/\((X.T t).1=false->a.tmps.getD t undef=undef)
 lt:∀ t,(X.T t).2.lt X.H.length
 own:∀ (i g:Nat),i<X.H.length->β i g->b.w0.heap.size<=g\/b.S g
 size:a.tmps.size=N
 below:Kept b.S b.w0 w
 fix:b.fx.length<=X.H.length/\∀ i,b.fx.getD i false=true->φ i=b.φ0 i
 defers:a.defers=b.ds
def R (P:Program) (cf:Cfg) (b:Base) (N:Nat) (X:St) (a:Act) (w:World):Prop:=∃ φ β M,RA P cf b N φ β M X a w
section
variable {P:Program} {cf:Cfg} {b:Base} {N:Nat} {φ:Nat->Value} {β:Nat->Nat->Prop} {M:Mem} {X:St} {a:Act} {w:World}
theorem RA.ctx (h:RA P cf b N φ β M X a w):Ctx P cf φ β M X.H w X.T a:=⟨h.cf,h.hi,fun x hx=>by
 cases x with
 | tmp t=>exact (h.t t).1 hx
 | const v=>rfl
 | func f=>exact ⟨[],rfl,rfl,fun j hj=>by simp at hj⟩
 | global g=>trivial⟩
theorem J6 {d:Option Nat} {u:Value} (hd:d.all (Nat.blt · a.tmps.size)=true) (t:Nat):((a.put d u).tmps.getD t undef)=if d=some t then u else a.tmps.getD t undef:=by
 cases d with
 | none=>simp [Act.put]
 | some s =>
  simp only [Option.all_some,Nat.blt_eq] at hd
  by_cases h:s=t
  ·subst h
   simp [Act.put,hd]
  ·simp [Act.put,h]
theorem size_put {d:Option Nat} {u:Value}:(a.put d u).tmps.size=a.tmps.size:=by cases d<;>simp [Act.put]
theorem MS {d:Option Nat} {u:Value}:(a.put d u).defers=a.defers:=by cases d<;>simp [Act.put]
theorem RA.put (h:RA P cf b N φ β M X a w) {d:Option Nat} (hd:d.all (Nat.blt · N)=true) {g:Bool} {v:AV} {u:Value} {M':Mem} {w':World} (hm:M.le M') (hn:∀ ad v,M' ad=some v->b.M0 ad=some v\/b.w0.heap.size<=ad.block\/b.S ad.block) (hi:HI φ β M' X.H w') (hb:Kept b.S b.w0 w') (hv:(g=true->v.rel φ M' u)/\(g=false->u=undef)) (hl:v.lt X.H.length) :
  RA P cf b N φ β M' ⟨X.T.put d (g,v),X.H⟩ (a.put d u) w':=by
 refine ⟨h.cf,Mem.le_trans h.le hm,hn,hi,fun t =>?_,fun t =>?_,h.own,size_put.trans h.size,hb,h.fix,MS.trans h.defers⟩
 ·rw [J6 (by rw [h.size];exact hd)]
  cases d with
  | none=>exact ⟨fun ht=>AV.aX hm ((h.t t).1 ht),(h.t t).2⟩
  | some s =>
   simp only [Tm.put]
   by_cases e:t=s
   ·subst e
    simp only [Nat.beq_refl,cond_true,if_true]
    exact hv
   ·have e1:Nat.beq t s=false:=by rw [Bool.eq_false_iff];exact fun h=>e (Nat.eq_of_beq_eq_true h)
    rw [e1]
    rw [if_neg (by simpa using Ne.symm e)]
    exact ⟨fun ht=>AV.aX hm ((h.t t).1 ht),(h.t t).2⟩
 ·cases d with
  | none=>exact h.lt t
  | some s =>
   simp only [Tm.put]
   by_cases e:t=s
   ·subst e
    simpa using hl
   ·have e1:Nat.beq t s=false:=by rw [Bool.eq_false_iff];exact fun h=>e (Nat.eq_of_beq_eq_true h)
    rw [e1]
    exact h.lt t
theorem RA.draw (h:RA P cf b N φ β M X a w):RA P cf b N φ β M X a { w with drawn:=w.drawn+1 } :=
 ⟨h.cf,h.le,h.new,⟨h.hi.mem,fun i o hi=>(by
  have:=h.hi.ob i o hi
  cases o with
  | gone=>trivial
  | box cs=>exact this
  | row e c=>exact this
  | tree es c=>exact gX.keep this fun _ _=>rfl
  | hole e es c k x=>exact mX.keep this fun _ _=>rfl
  | cut e e2 c k x=>exact rG.keep this fun _ _=>rfl),h.hi.off,h.hi.inj,h.hi.lt,h.hi.wf⟩,h.t,h.lt,h.own,h.size,⟨h.below.os,h.below.tape,h.below.output,h.below.size,h.below.block⟩,h.fix,h.defers⟩
end
def lN:Nat->Value:=fun _=>undef
def BP (φ:Nat->Value) (M:Mem) (xs:List AV) (us:List Value):Prop:=us.length=xs.length/\∀ j (h:j<xs.length) (h':j<us.length),xs[j].rel φ M us[j]
abbrev fO (M:Mem) (xs:List AV) (us:List Value):Prop:=BP lN M xs us
inductive Res
 | imm (r:AV)
 | own (e:Nat) (c:Cn)
def Res.rel (M:Mem) (w w':World) (u:Value):Res->Prop
 | .imm r=>r.rel lN M u
 | .own e c=>∃ vs,w'.ownsRow w.heap.size e c.w u c.len vs/\c.rel M vs/\∀ ad v,M ad=some v->blk u≠some ad.block
def Does (P:Program) (f:Nat) (args:List AV) (r:Res):Prop:=(∀ (av:Array Value) (W:World),(callFunc f av).run P W = .ok (.enter f av) W)/\∀ (M:Mem) (w:World) (us:List Value),(∀ ad v,M ad=some v->w.cell? ad=some v)->fO M args us ->
 Calls P f us.toArray w fun e w'=>∃ u M',e = .returned u/\M.le M'/\(∀ ad v,M' ad=some v->w'.cell? ad=some v/\(M ad=some v\/w.heap.size<=ad.block))/\r.rel M' w w' u/\Below w.heap.size w w'
def blks (H:List Ob) (β:Nat->Nat->Prop) (g:Nat):Prop:=∃ k,k<H.length/\β k g
def bP (P:Program) (f:Nat) (args:List AV) (fx:List Bool) (H:List Ob) (r:AV) (H':List Ob):Prop:=(∀ (av:Array Value) (W:World),(callFunc f av).run P W = .ok (.enter f av) W)/\∀ (φ:Nat->Value) (β:Nat->Nat->Prop) (M:Mem) (w:World) (us:List Value),HI φ β M H w->BP φ M args us ->
 Calls P f us.toArray w fun e w'=>∃ u φ' β' M',e = .returned u/\M.le M'/\(∀ ad v,M' ad=some v->M ad=some v\/w.heap.size<=ad.block\/blks H β ad.block)/\HI φ' β' M' H' w'/\r.rel φ' M' u/\r.lt H'.length/\H.length<=H'.length /\
  (∀ i,fx.getD i false=true->φ' i=φ i)/\(∀ i g,i<H'.length->β' i g->w.heap.size<=g\/blks H β g)/\Kept (blks H β) w w'
def cu (σ:List Nat) (n k:Nat):Nat:=match σ[k]? with
 | some s=>s
 | none=>n+(k-σ.length)
def Lf.ren (ρ:Nat->Nat):Lf->Lf
 | .own i => .own (ρ i)
 | .ptr i o => .ptr (ρ i) o
 | .oa i w j o => .oa (ρ i) w j o
 | x=>x
def qg (H:List Ob):Lf->Option B
 | .b x=>some x
 | .own i=>match H[i]? with
  | some (.row _ c)=>some (.sl c)
  | some (.tree _ c)=>some (.sl c)
  | _=>none
 | _=>none
def view (H:List Ob):Lf->Option Lf
 | .b x=>some (.b x)
 | .own i=>match H[i]? with
  | some (.row _ c)=>some (.b (.sl c))
  | some (.tree _ c)=>some (.b (.sl c))
  | _=>none
 | .ptr i o=>match H[i]? with
  | some (.box cs)=>(cs.mapM (qg H)).map fun xs => .ip xs o
  | _=>none
 | .ip xs o=>some (.ip xs o)
 | _=>none
def fQ (H:List Ob):AV->Option AV
 | .tv (.one x)=>(view H x).map fun y => .tv (.one y)
 | .tv (.agg xs)=>(xs.mapM (view H)).map fun ys => .tv (.agg ys)
 | .clo f xs=>(xs.mapM (view H)).map fun ys => .clo f ys
 | .tup _=>none
def TV.oP:TV->Bool
 | .one (.b (.val _))=>true
 | .agg xs=>xs.all fun x=>match x with | .b (.val _)=>true | _=>false
 | _=>false
def AV.oP:AV->Bool
 | .tv x=>x.oP
 | .tup xs=>xs.all TV.oP
 | .clo _ _=>false
def AV.free (x:AV):Bool:=x.leaves.all (Lf.ltB 0)
theorem mapM_some {α β:Type} {f:α->Option β}:∀ {xs:List α} {ys:List β},xs.mapM f=some ys->ys.length=xs.length/\∀ j (h:j<xs.length) (h':j<ys.length),f xs[j]=some ys[j]
 | [],ys,h=>by simp at h;subst h;exact ⟨rfl,fun j h=>by simp at h⟩
 | x::xs,ys,h=>by
  rw [List.mapM_cons] at h
  cases e:f x with
  | none=>simp [e] at h
  | some y =>
   cases e2:xs.mapM f with
   | none=>simp [e,e2] at h
   | some zs =>
    simp [e,e2] at h
    subst h
    obtain ⟨h1,h2⟩:=mapM_some e2
    refine ⟨by simp [h1],fun j hj hj' =>?_⟩
    match j with
    | 0=>exact e
    | j+1=>simpa using h2 j (by simpa using hj) (by simpa using hj')
section
variable {φ:Nat->Value} {β:Nat->Nat->Prop} {M:Mem} {H:List Ob} {w:World}
theorem WO (hH:HI φ β M H w) {i e:Nat} {c:Cn} (hi:H[i]? = some (.row e c)):(B.sl c).rel w.cell? (φ i):=by
 obtain ⟨vs,h1,h2,_⟩:=hH.ob i _ hi
 exact D7 h1 (Cn.aX (fun _ _ h=>hH.mem _ _ h) h2) fun _ _ _ h=>h
theorem QX (hH:HI φ β M H w) {i:Nat} {es:List Nat} {c:Cn} (hi:H[i]? = some (.tree es c)):(B.sl c).rel w.cell? (φ i):=gX.rel (hH.ob i _ hi) fun _ _ _ h=>h
theorem SV (hH:HI φ β M H w) {x:Lf} {y:B} {u:Value} (e:qg H x=some y) (h:x.rel φ M u):y.rel w.cell? u:=by
 cases x<;>simp only [qg] at e<;>first | (cases e;done) | skip
 case b x=>cases e;exact B.aX (fun _ _ h=>hH.mem _ _ h) h
 case own i =>
  split at e
  ·rename_i hi
   cases e
   rw [show u=φ i from h]
   exact WO hH hi
  ·rename_i hi
   cases e
   rw [show u=φ i from h]
   exact QX hH hi
  ·cases e
theorem y9 (hH:HI φ β M H w) {x y:Lf} {u:Value} (e:view H x=some y) (h:x.rel φ M u):y.rel lN w.cell? u:=by
 cases x<;>simp only [view] at e<;>first | (cases e;done) | skip
 case b x=>cases e;exact B.aX (fun _ _ h=>hH.mem _ _ h) h
 case own i =>
  split at e
  ·rename_i hi
   cases e
   rw [show u=φ i from h]
   exact WO hH hi
  ·rename_i hi
   cases e
   rw [show u=φ i from h]
   exact QX hH hi
  ·cases e
 case ptr i o =>
  split at e
  ·rename_i cs hi
   cases e2:cs.mapM (qg H) with
   | none=>simp [e2] at e
   | some xs =>
    simp [e2] at e
    subst e
    obtain ⟨g,h1,h2⟩:=h
    obtain ⟨g',arr,t,h3,h4,⟨h5,h6⟩,_⟩:=hH.ob i _ hi
    rw [h1] at h3
    cases h3
    obtain ⟨h7,h8⟩:=mapM_some e2
    refine ⟨⟨g,0,none⟩,by rw [h2,fG,Nat.zero_add],fun t ht =>?_⟩
    have ht1:t<cs.length:=by omega
    have ht2:t<arr.toList.length:=by omega
    exact ⟨arr.toList[t],by rw [fG,Nat.zero_add,pF h4,List.getElem?_eq_getElem ht2],SV hH (h8 t ht1 ht) (h6 t ht1 ht2)⟩
  ·cases e
 case ip xs o =>
  cases e
  exact Lf.aX (φ:=lN) (fun _ _ h=>hH.mem _ _ h) h
theorem G5 (hH:HI φ β M H w) {xs ys:List Lf} {us:List Value} (e:xs.mapM (view H)=some ys) (h:gQ φ M xs us):gQ lN w.cell? ys us:=by
 obtain ⟨h1,h2⟩:=mapM_some e
 exact ⟨h.1.trans h1.symm,fun j hj hj'=>y9 hH (h2 j (by omega) hj) (h.2 j (by omega) hj')⟩
theorem Af (hH:HI φ β M H w) {x y:AV} {u:Value} (e:fQ H x=some y) (h:x.rel φ M u):y.rel lN w.cell? u:=by
 cases x with
 | tv x =>
  cases x with
  | one x =>
   simp only [fQ,Option.map_eq_some_iff] at e
   obtain ⟨y',e1,rfl⟩:=e
   exact y9 hH e1 h
  | agg xs =>
   simp only [fQ,Option.map_eq_some_iff] at e
   obtain ⟨y',e1,rfl⟩:=e
   obtain ⟨us,e2,h2⟩:=h
   exact ⟨us,e2,G5 hH e1 h2⟩
 | clo f xs =>
  simp only [fQ,Option.map_eq_some_iff] at e
  obtain ⟨y',e1,rfl⟩:=e
  obtain ⟨us,e2,h2⟩:=h
  exact ⟨us,e2,G5 hH e1 h2⟩
 | tup xs=>simp [fQ] at e
theorem TV.y8 {φ':Nat->Value} {M':Mem} {x:TV} {u:Value} (hv:x.oP=true) (h:x.rel φ M u):x.rel φ' M' u:=by
 refine TV.oD h fun y hy u hu =>?_
 cases x with
 | one x =>
  simp only [TV.leaves,List.mem_singleton] at hy
  subst hy
  cases y<;>simp [TV.oP] at hv
  rename_i z
  cases z<;>simp [TV.oP] at hv
  exact hu
 | agg xs =>
  simp only [TV.oP,List.all_eq_true] at hv
  have:=hv y hy
  split at this
  ·exact hu
  ·cases this
theorem AV.y8 {φ':Nat->Value} {M':Mem} {x:AV} {u:Value} (hv:x.oP=true) (h:x.rel φ M u):x.rel φ' M' u:=by
 cases x with
 | tv x=>exact TV.y8 hv h
 | clo f xs=>simp [AV.oP] at hv
 | tup xs =>
  obtain ⟨us,e,h1,h2⟩:=h
  simp only [AV.oP,List.all_eq_true] at hv
  exact ⟨us,e,h1,fun j hj hj'=>TV.y8 (hv _ (List.getElem_mem hj)) (h2 j hj hj')⟩
theorem xU {φ':Nat->Value} {x:AV} {u:Value} (hv:x.free=true) (h:x.rel φ M u):x.rel φ' M u:=by
 refine AV.oD h fun y hy u hu =>?_
 exact Lf.jK (n:=0) (List.all_eq_true.1 hv y hy) (fun i hi=>by omega) hu
theorem H7 {x:AV} (hv:x.free=true) (n:Nat):x.lt n:=fun y hy=>by
 have:=List.all_eq_true.1 hv y hy
 cases y<;>simp_all [Lf.ltB]
theorem Ob.rel_keep {S:Nat->Prop} {w':World} {u:Value} {o:Ob} (h:o.rel φ S M w u) (hk:∀ g,S g->w'.heap[g]? = w.heap[g]?):o.rel φ S M w' u:=by
 cases o with
 | gone=>trivial
 | box cs =>
  obtain ⟨g,arr,t,h1,h2,h3,h4⟩:=h
  exact ⟨g,arr,t,h1,(hk g h4).trans h2,h3,h4⟩
 | row e c =>
  obtain ⟨vs,h1,h2,h3⟩:=h
  exact ⟨vs,sU h1 fun g hg=>hk g (h3 g hg),h2,h3⟩
 | tree es c=>exact gX.keep h hk
 | hole e es c k x=>exact mX.keep h hk
 | cut e e2 c k x=>exact rG.keep h hk
theorem Ob.aX {S:Nat->Prop} {M':Mem} (hm:M.le M') {u:Value} {o:Ob} (h:o.rel φ S M w u):o.rel φ S M' w u:=by
 cases o with
 | gone=>trivial
 | box cs =>
  obtain ⟨g,arr,t,h1,h2,h3,h4⟩:=h
  exact ⟨g,arr,t,h1,h2,h3.imp fun _ _ _ h=>Lf.aX hm h,h4⟩
 | row e c =>
  obtain ⟨vs,h1,h2,h3⟩:=h
  exact ⟨vs,h1,Cn.aX hm h2,h3⟩
 | tree es c=>exact h
 | hole e es c k x=>exact mX.imp h fun _ h=>Lf.aX hm h
 | cut e e2 c k x=>exact rG.imp h hm fun _ h=>Lf.aX hm h
theorem HI.more {w':World} {M':Mem} (h:HI φ β M H w) (hb:Below w.heap.size w w') (hm:M.le M') (hn:∀ ad v,M' ad=some v->w'.cell? ad=some v/\(M ad=some v\/w.heap.size<=ad.block)):HI φ β M' H w' :=
 ⟨fun a v e=>(hn a v e).1,fun i o hi=>Ob.aX hm (Ob.rel_keep (h.ob i o hi) fun g hg=>hb.block g (h.lt i g (List.getElem?_eq_some_iff.1 hi).1 hg)),fun i g hi hg a v e=>by
  rcases (hn a v e).2 with h1 | h1
  ·exact h.off i g hi hg a v h1
  ·have:=h.lt i g hi hg
   omega,h.inj,fun i g hi hg=>Nat.lt_of_lt_of_le (h.lt i g hi hg) hb.size,h.wf⟩
theorem DU (hH:HI φ β M H w) {ad:Addr} {v:Value} (h:M ad=some v):ad.block<w.heap.size:=by
 have:=hH.mem ad v h
 unfold World.cell? at this
 split at this
 ·rename_i h';exact (Array.getElem?_eq_some_iff.1 h').1
 ·cases this
theorem HI.below {w':World} (h:HI φ β M H w) (hb:Below w.heap.size w w'):HI φ β M H w' :=
 h.more hb (Mem.le_refl _) fun ad v e=>⟨(hb.cell (p:=ad) (DU h e)).trans (h.mem ad v e),.inl e⟩
end
def guardOf (ops:Array Oper) (o:Oper) (T:Tm):Prop×Bool:=match o.guard with
 | none=>(True,true)
 | some (j,want)=>match (ops[j]?).bind (·.dst) with
  | some d=>match T d with
   | (g,.tv (.one (.b (.val (.bool b)))))=>(True,g && (b == want))
   | _=>(False,true)
  | none=>(False,true)
def uQ:AV->Option (Nat×List Lf)
 | .clo f xs=>some (f,xs)
 | .tv (.one (.b (.fn f cs)))=>some (f,cs.map fun c => .ip (c.map fun n => .val (.int .i64 n)) 0)
 | _=>none
theorem JH (f:Nat) (ms:List (List (List Int))):uQ (.tv (.one (.b (.bm f ms))))=none:=rfl
theorem zu {φ:Nat->Value} {M:Mem} {v:AV} {f:Nat} {xs:List Lf} {u:Value} (h:uQ v=some (f,xs)) (k:v.rel φ M u):∃ us:List Value,u = .func (.func f) #[] us.toArray/\gQ φ M xs us:=by
 unfold uQ at h
 split at h
 ·cases h;exact k
 ·cases h
  obtain ⟨us,e,h1,h2⟩:=k
  refine ⟨us,e,by simpa using h1,fun j hj hj' =>?_⟩
  obtain ⟨ad,e1,h3⟩:=h2 j (by simpa using hj) hj'
  rw [List.getElem_map]
  refine ⟨ad,by rw [e1];rfl,fun t ht=>⟨.int .i64 (_:Int),h3 t (by simpa using ht),?_⟩⟩
  rw [List.getElem_map]
  rfl
 ·cases h
theorem qp {v:AV} {f:Nat} {xs:List Lf} (h:uQ v=some (f,xs)) (p:Lf->Bool) (hp:∀ a o,p (.ip a o)=true) (k:v.leaves.all p=true):∀ x∈xs,p x=true:=by
 unfold uQ at h
 split at h
 ·cases h;exact List.all_eq_true.1 k
 ·cases h
  intro x hx
  obtain ⟨c,_,rfl⟩:=List.mem_map.1 hx
  exact hp _ _
 ·cases h
def bQ (T:Tm) (c:Call):Option (Bool×Nat×List Lf):=match c.callee with
 | .value x=>match look T x with
  | (g,v)=>match uQ v with
   | some (f,xs)=>some (g,f,xs)
   | none=>none
 | _=>none
def jF (H:List Ob) (T:Tm) (c:Call) (xs:List Lf):Option (List AV):=(c.args.toList.mapM fun x=>fQ H (look T x).2).bind fun vs=>(xs.mapM (view H)).map fun ys=>vs++ys.map fun y => .tv (.one y)
def MI (T:Tm) (c:Call):Option (Bool×Nat×List (List (List Int))):=match c.callee with
 | .value x=>match look T x with
  | (g,.tv (.one (.b (.bm f ms))))=>some (g,f,ms)
  | _=>none
 | _=>none
def lI (P:Program) (H:List Ob) (T:Tm) (g:Bool) (c:Call) (r:AV):Prop:=(∃ gc f xs vs,bQ T c=some (gc,f,xs)/\need g gc/\(∀ x∈c.args.toList,need g (look T x).1)/\jF H T c xs=some vs/\(g=true->Does P f vs (.imm r)) /\
 (r.oP=true\/(r.free=true/\(∀ x∈c.args.toList,(look T x).2.free=true)/\∀ x∈xs,x.ltB 0=true))) \/
 match MI T c with
 | some (gc,f,ms)=>need g gc/\(∀ x∈c.args.toList,need g (look T x).1)/\∃ vs,(c.args.toList.mapM fun x=>fQ H (look T x).2)=some vs/\(g=true->Does P f (.tv (.agg (ms.map fun m => .b (.sl (.ii m))))::vs) (.imm r))/\r.oP=true
 | none=>False
theorem ML {P:Program} {H:List Ob} {T:Tm} {g:Bool} {c:Call} {r:AV} (h:lI P H T g c r):r.oP=true\/r.free=true:=by
 rcases h with ⟨_,_,_,_,_,_,_,_,_,h | h⟩ | h
 ·exact .inl h
 ·exact .inr h.1
 ·split at h
  ·obtain ⟨_,_,_,_,_,h⟩:=h
   exact .inl h
  ·exact h.elim
def oN (P:Program) (cf:Cfg) (H:List Ob) (N:Nat) (ops:Array Oper) (o:Oper) (T:Tm) (v:Bool×AV):Prop :=
 o.dst.all (Nat.blt · N)=true/\(guardOf ops o T).1/\v.1=(guardOf ops o T).2 /\
  ((∃ c,o.op = .call c/\lI P H T v.1 c v.2)\/((qev cf H T v.1 o.op).1/\v.2=(qev cf H T v.1 o.op).2))
section
variable {P:Program} {cf:Cfg} {b:Base} {N:Nat} {φ:Nat->Value} {β:Nat->Nat->Prop} {M:Mem} {T:Tm} {H:List Ob} {a:Act} {w:World} {ops:Array Oper} {o:Oper}
theorem Ah (h:RA P cf b N φ β M ⟨T,H⟩ a w) (hg:(guardOf ops o T).1):Region.wanted o (yielded ops a.tmps)=(guardOf ops o T).2:=by
 unfold Region.wanted
 simp only [guardOf] at hg ⊢
 cases e:o.guard with
 | none=>rfl
 | some p =>
  obtain ⟨j,want⟩:=p
  rw [e] at hg
  simp only at hg ⊢
  cases e1:(ops[j]?).bind (·.dst) with
  | none=>rw [e1] at hg;exact hg.elim
  | some d =>
   rw [e1] at hg
   simp only at hg ⊢
   split at hg
   ·rename_i g b hT
    have ht:=h.t d
    simp only [hT] at ht
    have hy:yielded ops a.tmps j=if g then some b else none:=by
     unfold yielded
     rw [e1]
     simp only [Option.bind_some]
     cases g with
     | true =>
      have h1:=ht.1 rfl
      have h2:a.tmps.getD d undef = .bool b:=h1
      rw [Array.getD_eq_getD_getElem?] at h2
      cases e2:a.tmps[d]? with
      | none=>rw [e2] at h2;simp [undef] at h2
      | some u=>rw [e2] at h2;simp at h2;rw [h2];rfl
     | false =>
      have h2:=ht.2 rfl
      rw [Array.getD_eq_getD_getElem?] at h2
      cases e2:a.tmps[d]? with
      | none=>rfl
      | some u=>rw [e2] at h2;simp at h2;rw [h2];rfl
    rw [hy]
    cases g<;>cases b<;>cases want<;>rfl
   ·exact hg.elim
theorem Ag {x y:Lf} (hx:x.ltB 0=true) (e:view H x=some y):y=x:=by
 cases x<;>simp [view,Lf.ltB] at e hx<;>first | exact e.symm | skip
theorem EP {xs ys:List Lf} (hx:∀ x∈xs,x.ltB 0=true) (e:xs.mapM (view H)=some ys):ys=xs:=by
 obtain ⟨h1,h2⟩:=mapM_some e
 refine List.ext_getElem h1 fun j hj hj' =>?_
 exact Ag (hx _ (List.getElem_mem hj')) (h2 j hj' hj)
theorem OH {x y:AV} (hx:x.free=true) (e:fQ H x=some y):y=x:=by
 simp only [AV.free,List.all_eq_true] at hx
 cases x with
 | tv x =>
  cases x with
  | one x =>
   simp only [fQ,Option.map_eq_some_iff] at e
   obtain ⟨y',e1,rfl⟩:=e
   rw [Ag (hx x (by simp [AV.leaves,TV.leaves])) e1]
  | agg xs =>
   simp only [fQ,Option.map_eq_some_iff] at e
   obtain ⟨y',e1,rfl⟩:=e
   rw [EP hx e1]
   rfl
 | clo f xs =>
  simp only [fQ,Option.map_eq_some_iff] at e
  obtain ⟨y',e1,rfl⟩:=e
  rw [EP hx e1]
  rfl
 | tup xs=>simp [fQ] at e
theorem Xg {x:AV} (hv:x.oP=true) (n:Nat):x.lt n:=by
 intro y hy
 have hT:∀ (z:TV),z.oP=true->∀ y∈z.leaves,y.ltB n=true:=fun z hz y hy=>by
  cases z with
  | one x =>
   simp only [TV.leaves,List.mem_singleton] at hy
   subst hy
   cases y<;>simp [TV.oP] at hz
   rfl
  | agg xs =>
   simp only [TV.oP,List.all_eq_true] at hz
   have:=hz y hy
   split at this
   ·rfl
   ·cases this
 cases x with
 | tv x=>exact hT x hv y hy
 | clo f xs=>simp [AV.oP] at hv
 | tup xs =>
  simp only [AV.oP,List.all_eq_true] at hv
  simp only [AV.leaves,List.mem_flatMap] at hy
  obtain ⟨z,hz,hy⟩:=hy
  exact hT z (hv z hz) y hy
theorem vK {R:Mem} {ρ:Operand->Value} {as:List Operand} {xs:List Lf} {us:List Value} {vs:List AV} {ys:List Lf} (h1:as.mapM (fun x=>fQ H (look T x).2)=some vs) (h2:xs.mapM (view H)=some ys)
  (ha:∀ (x:Operand) (y:AV),x∈as->fQ H (look T x).2=some y->y.rel lN R (ρ x)) (hl:us.length=xs.length) (hc:∀ j (h:j<xs.length) (h':j<us.length) (y:Lf),view H xs[j]=some y->y.rel lN R us[j]) :
  fO R (vs++ys.map fun y => .tv (.one y)) (as.map ρ++us):=by
 obtain ⟨k1,k2⟩:=mapM_some h1
 obtain ⟨k3,k4⟩:=mapM_some h2
 refine ⟨by simp [k1,k3,hl],fun j hj hj' =>?_⟩
 by_cases hlt:j<as.length
 ·rw [List.getElem_append_left (by omega),List.getElem_append_left (by simpa using hlt),List.getElem_map]
  exact ha _ _ (List.getElem_mem hlt) (k2 j hlt (by omega))
 ·have hl2:(as.map ρ).length=as.length:=by simp
  rw [List.getElem_append_right (by omega),List.getElem_append_right (by omega),List.getElem_map]
  simp only [List.length_append,List.length_map] at hj hj'
  simp only [hl2,k1]
  exact hc (j-as.length) (by omega) (by omega) _ (k4 (j-as.length) (by omega) (by omega))
theorem zy {ρ:Operand->Value} {c:Call} {x:Operand} {f:Nat} {us:List Value} (ho:o.op = .call c) (hc:c.callee = .value x) (hx:ρ x = .func (.func f) #[] us.toArray) (he:∀ (av:Array Value) (W:World),(callFunc f av).run P W = .ok (.enter f av) W) :
  (execOp ρ o).run P w = .ok (.enter f (c.args.toList.map ρ++us).toArray) w:=by
 have e:c.args.map ρ++us.toArray=(c.args.toList.map ρ++us).toArray:=by
  apply Array.toList_inj.1
  simp
 simp only [execOp,ho,resolve,hc,hx,Deferred.ofValue,Sem.run_bind,Sem.run_pure,Result.andThen_ok,invoke,Array.empty_append,he]
 rw [e]
theorem Nh {ρ:Operand->Value} {c:Call} {x:Operand} {f:Nat} {v:Value} (ho:o.op = .call c) (hc:c.callee = .value x) (hx:ρ x = .func (.func f) #[v] #[]) (he:∀ (av:Array Value) (W:World),(callFunc f av).run P W = .ok (.enter f av) W) :
  (execOp ρ o).run P w = .ok (.enter f (v::c.args.toList.map ρ).toArray) w:=by
 have e:#[v]++c.args.map ρ++#[]=(v::c.args.toList.map ρ).toArray:=by
  apply Array.toList_inj.1
  simp
 simp only [execOp,ho,resolve,hc,hx,Deferred.ofValue,Sem.run_bind,Sem.run_pure,Result.andThen_ok,invoke,he]
 rw [e]
theorem yF (h:RA P cf b N φ β M ⟨T,H⟩ a w) {v:Bool×AV} (hok:oN P cf H N ops o T v) {K:Act->World->Prop} {Q:Exit->Act->World->Prop}
  (hK:∀ M' a' w',M.le M'->RA P cf b N φ β M' ⟨T.put o.dst v,H⟩ a' w'->K a' w') :
  if Region.wanted o (yielded ops a.tmps) then o.wp P a w K Q else K (a.put o.dst undef) w:=by
 obtain ⟨hd,hg,hv,hop⟩:=hok
 obtain ⟨g,r⟩:=v
 simp only at hv hop
 rw [Ah h hg,← hv]
 have hlt:r.lt H.length:=by
  rcases hop with ⟨c,hc,hk⟩ | ⟨_,hr⟩
  ·rcases ML hk with hr | hr
   ·exact Xg hr _
   ·exact H7 hr _
  ·rw [hr]
   exact q_lt h.hi.wf h.lt _
 cases g with
 | false =>
  rw [if_neg (by simp)]
  exact hK M _ _ (Mem.le_refl _) (h.put hd (Mem.le_refl _) h.new h.hi h.below ⟨(fun hf=>by cases hf),fun _=>rfl⟩ hlt)
 | true =>
  rw [if_pos rfl]
  rcases hop with ⟨c,hc,⟨gc,f,xs,vs,h1,h2,h3,h4,h5,h6⟩ | hk⟩ | ⟨hs,hr⟩
  ·have hspec:=h5 rfl
   simp only [bQ] at h1
   split at h1
   ·rename_i x hcx
    split at h1
    ·rename_i f' xs' hx
     cases h1
     have hρ:=h.ctx.t x (h2 rfl)
     obtain ⟨us,hus,hl,hcap⟩:=zu hx hρ
     have hex:=zy (P:=P) (w:=w) hc hcx hus hspec.1
     simp only [jF,Option.bind_eq_some_iff,Option.map_eq_some_iff] at h4
     obtain ⟨vs1,h7,ys,h8,rfl⟩:=h4
     unfold Oper.wp
     rw [hex]
     simp only [Oper.upon]
     rcases h6 with hval | ⟨hfr,hfa,hfx⟩
     ·have hAR:fO w.cell? (vs1++ys.map fun y => .tv (.one y)) (c.args.toList.map a.eval++us) :=
       vK h7 h8 (fun x y hx hy=>Af h.hi hy (h.ctx.t x (h3 x hx rfl))) hl (fun j hj hj' y hy=>y9 h.hi hy (hcap j hj hj'))
      refine (hspec.2 w.cell? w _ (fun _ _ e=>e) hAR).mono ?_
      rintro e w' ⟨u,M',rfl,-,-,hrel,hb⟩
      exact hK M _ _ (Mem.le_refl _) (h.put hd (Mem.le_refl _) h.new (h.hi.below hb) (h.below.below hb) ⟨fun _=>AV.y8 hval hrel,fun hf=>by cases hf⟩ hlt)
     ·have hAR:fO M (vs1++ys.map fun y => .tv (.one y)) (c.args.toList.map a.eval++us) :=
       vK h7 h8 (fun x y hx hy=>by rw [OH (hfa x hx) hy];exact xU (hfa x hx) (h.ctx.t x (h3 x hx rfl))) hl
        (fun j hj hj' y hy=>by rw [Ag (hfx _ (List.getElem_mem hj)) hy];exact Lf.jK (hfx _ (List.getElem_mem hj)) (fun i hi=>by omega) (hcap j hj hj'))
      refine (hspec.2 M w _ h.hi.mem hAR).mono ?_
      rintro e w' ⟨u,M',rfl,hm,hn,hrel,hb⟩
      refine hK M' _ _ hm (h.put hd hm (fun ad v e =>?_) (h.hi.more hb hm hn) (h.below.below hb) ⟨fun _=>xU hfr hrel,fun hf=>by cases hf⟩ hlt)
      rcases (hn ad v e).2 with h9 | h9
      ·exact h.new ad v h9
      ·exact .inr (.inl (Nat.le_trans h.below.size h9))
    ·cases h1
   ·cases h1
  ·split at hk
   ·rename_i gc f ms e
    obtain ⟨h2,h3,vs,h4,h5,h6⟩:=hk
    have hspec:=h5 rfl
    unfold MI at e
    split at e
    ·rename_i x hcx
     split at e
     ·rename_i g' f' ms' hx
      cases e
      have hρ:=h.ctx.t x
      rw [hx] at hρ
      obtain ⟨us,hus,hl,hcap⟩:=hρ (h2 rfl)
      have hex:=Nh (P:=P) (w:=w) hc hcx hus hspec.1
      unfold Oper.wp
      rw [hex]
      simp only [Oper.upon]
      obtain ⟨k1,k2⟩:=mapM_some h4
      have hAR:fO w.cell? (.tv (.agg (ms.map fun m => .b (.sl (.ii m))))::vs) (.agg us.toArray::c.args.toList.map a.eval):=by
       refine ⟨by simp [k1],fun j hj hj' =>?_⟩
       cases j with
       | zero =>
        refine ⟨us,rfl,by simpa using hl,fun i hi hi' =>?_⟩
        rw [List.getElem_map]
        exact SO.mono (R:=SI) (fun h hm=>SI.mono h hm) (hcap i (by simpa using hi) hi') h.hi.mem
       | succ j =>
        simp only [List.getElem_cons_succ,List.getElem_map]
        exact Af h.hi (k2 j (by simp only [List.length_cons] at hj;omega) (by simp only [List.length_cons] at hj;omega)) (h.ctx.t _ (h3 _ (List.getElem_mem _) rfl))
      refine (hspec.2 w.cell? w _ (fun _ _ e=>e) hAR).mono ?_
      rintro e w' ⟨u,M',rfl,-,-,hrel,hb⟩
      exact hK M _ _ (Mem.le_refl _) (h.put hd (Mem.le_refl _) h.new (h.hi.below hb) (h.below.below hb) ⟨fun _=>AV.y8 h6 hrel,fun hf=>by cases hf⟩ hlt)
     ·cases e
    ·cases e
   ·exact hk.elim
  ·obtain ⟨u,hu,hrel⟩:=Yz (o:=o) h.ctx hs
   unfold Oper.wp
   rw [hu]
   exact hK M _ _ (Mem.le_refl _) (h.put hd (Mem.le_refl _) h.new h.hi h.below ⟨fun _=>by rw [hr];exact hrel,fun hf=>by cases hf⟩ hlt)
end
theorem pO {T:Tm} {d:Option Nat} {v:Bool×AV} {x:Operand} (h:∀ t,d=some t->x ≠ .tmp t):look (T.put d v) x=look T x:=by
 cases d with
 | none=>rfl
 | some d =>
  cases x with
  | tmp t =>
   have hne:Nat.beq t d=false:=by
    rw [Bool.eq_false_iff]
    intro e
    exact h d rfl (by rw [Nat.eq_of_beq_eq_true e])
   simp [look,Tm.put,hne]
  | _=>rfl
theorem mapM_congr {α β:Type} {f g:α->Option β}:∀ {xs:List α},(∀ x∈xs,f x=g x)->xs.mapM f=xs.mapM g
 | [],_=>rfl
 | x::xs,h=>by rw [List.mapM_cons,List.mapM_cons,h x (by simp),mapM_congr fun y hy=>h y (by simp [hy])]
theorem SA {cf:Cfg} {H:List Ob} {T T':Tm} {g:Bool} (op:Op) (h:∀ x∈op.operands,look T' x=look T x):qev cf H T' g op=qev cf H T g op:=by
 cases op<;>simp only [Op.operands] at h<;>simp only [qev]
 case move x=>rw [h x (by simp)]
 case assign x=>rw [h x (by simp)]
 case nilCheck x=>rw [h x (by simp)]
 case pick c a b=>rw [h c (by simp),h a (by simp),h b (by simp)]
 case load t x=>rw [h x (by simp)]
 case binOp op t x y t'=>rw [h x (by simp),h y (by simp)]
 case unOp op t x=>rw [h x (by simp)]
 case slice t x lo hi mx =>
  cases mx with
  | some m=>rfl
  | none =>
   have hb:∀ (d:Nat) (q:Option Operand),(∀ y,q=some y->look T' y=look T y)->mY T' d q=mY T d q:=fun d q hq=>by
    cases q with
    | none=>rfl
    | some y=>simp only [mY];rw [hq y rfl]
   have h1:∀ d,mY T' d lo=mY T d lo:=fun d=>hb d lo fun y hy=>h y (by subst hy;simp)
   have h2:∀ d,mY T' d hi=mY T d hi:=fun d=>hb d hi fun y hy=>h y (by subst hy;simp)
   dsimp only
   rw [h x (by simp)]
   simp only [h1,h2]
 case fieldAddr s x f=>rw [h x (by simp)]
 case indexAddr t x ix=>rw [h x (by simp),h ix (by simp)]
 case extract x j=>rw [h x (by simp)]
 case field s x f=>rw [h x (by simp)]
 case build t parts =>
  rw [mapM_congr (g:=sV cf T t) fun p hp=>by
   have:look T' p.2=look T p.2:=h p.2 (by simp only [List.mem_toArray,List.mem_map];exact ⟨p,hp,rfl⟩)
   unfold sV
   rw [this]]
 case makeFunc fn first cap =>
  have hc:∀ x∈cap.toList,look T' x=look T x:=fun x hx=>h x (Array.mem_append.2 (.inr (Array.mem_toList_iff.1 hx)))
  split
  ·simp only [Prod.mk.injEq]
   refine ⟨?_,?_⟩
   ·apply propext
    exact ⟨fun k x hx=>by rw [← hc x hx];exact k x hx,fun k x hx=>by rw [hc x hx];exact k x hx⟩
   ·congr 1
    exact List.map_congr_left fun x hx=>by rw [hc x hx]
  ·rename_i f x e
   rw [h x (Array.mem_append.2 (.inl (Array.mem_toList_iff.1 (by rw [e];simp))))]
  ·rfl
 case call c =>
  obtain ⟨cl,⟨as⟩,⟨ts⟩⟩:=c
  split
  ·rename_i x t _ _ _
   simp only at *
   subst_vars
   rw [h _ (by simp [Call.operands])]
  ·rename_i x y _ _
   simp only at *
   subst_vars
   rw [h _ (by simp [Call.operands]),h _ (by simp [Call.operands])]
  ·rename_i x y _ _
   simp only at *
   subst_vars
   rw [h _ (by simp [Call.operands]),h _ (by simp [Call.operands])]
  ·rfl
theorem Hz {P:Program} {H:List Ob} {T T':Tm} {g:Bool} {c:Call} {r:AV} (h:∀ x∈c.operands,look T' x=look T x) (k:lI P H T g c r):lI P H T' g c r:=by
 have ha:∀ x∈c.args.toList,look T' x=look T x:=fun x hx=>h x (Array.mem_append.2 (.inr (Array.mem_toList_iff.1 hx)))
 have hc:bQ T' c=bQ T c:=by
  unfold bQ
  cases e:c.callee with
  | value x=>simp only;rw [h x (by simp [Call.operands,e])]
  | _=>rfl
 have hb:MI T' c=MI T c:=by
  unfold MI
  cases e:c.callee with
  | value x=>simp only;rw [h x (by simp [Call.operands,e])]
  | _=>rfl
 rcases k with ⟨gc,f,xs,vs,h1,h2,h3,h4,h5,h6⟩ | k
 rotate_left
 ·refine .inr ?_
  rw [hb]
  split at k
  ·obtain ⟨h2,h3,vs,h4,h5⟩:=k
   refine ⟨h2,fun x hx=>by rw [ha x hx];exact h3 x hx,vs,?_,h5⟩
   rw [← h4,mapM_congr (g:=fun x=>fQ H (look T x).2) fun x hx=>by rw [ha x hx]]
  ·exact k
 refine .inl ⟨gc,f,xs,vs,by rw [hc];exact h1,h2,fun x hx=>by rw [ha x hx];exact h3 x hx,?_,h5,?_⟩
 ·rw [← h4]
  unfold jF
  rw [mapM_congr (g:=fun x=>fQ H (look T x).2) fun x hx=>by rw [ha x hx]]
 ·rcases h6 with h6 | ⟨h6,h7,h8⟩
  ·exact .inl h6
  ·exact .inr ⟨h6,fun x hx=>by rw [ha x hx];exact h7 x hx,h8⟩
section
variable {P:Program} {cf:Cfg} {H:List Ob} {N:Nat} {ops:Array Oper}
theorem nM {o:Oper} {T T':Tm} {v:Bool×AV} (h:∀ x∈o.op.operands,look T' x=look T x) (hg:guardOf ops o T'=guardOf ops o T) (k:oN P cf H N ops o T v):oN P cf H N ops o T' v:=by
 obtain ⟨h1,h2,h3,h4⟩:=k
 refine ⟨h1,by rw [hg];exact h2,by rw [hg];exact h3,?_⟩
 rcases h4 with ⟨c,hc,h5⟩ | ⟨h5,h6⟩
 ·exact .inl ⟨c,hc,Hz (fun x hx=>h x (by rw [hc];exact hx)) h5⟩
 ·rw [← SA o.op h] at h5 h6
  exact .inr ⟨h5,h6⟩
theorem VX {o:Oper} {T:Tm} {v u:Bool×AV} {d:Option Nat} (hd:∀ t,d=some t->t ∉ o.looksAt ops) (k:oN P cf H N ops o T v):oN P cf H N ops o (T.put d u) v:=by
 refine nM (fun x hx=>pO fun t ht hxt=>hd t ht ?_) ?_ k
 ·subst hxt
  exact List.mem_append_left _ (List.mem_filterMap.2 ⟨.tmp t,by simpa using hx,rfl⟩)
 ·unfold guardOf
  cases e:o.guard with
  | none=>rfl
  | some p =>
   obtain ⟨j,want⟩:=p
   simp only
   cases e1:(ops[j]?).bind (·.dst) with
   | none=>rfl
   | some t =>
    simp only
    have:look (T.put d u) (.tmp t)=look T (.tmp t):=pO fun t' ht hxt=>hd t' ht (by
     cases hxt
     refine List.mem_append_right _ ?_
     simp [e,e1])
    have h2:(T.put d u) t=T t:=this
    rw [h2]
theorem Oa {o:Oper} {T:Tm} {v u:Bool×AV} {d:Option Nat} (hd:∀ t,d=some t->t ∉ o.looksAt ops) (k:oN P cf H N ops o (T.put d u) v):oN P cf H N ops o T v:=by
 refine nM (fun x hx=>(pO fun t ht hxt=>hd t ht ?_).symm) ?_ k
 ·subst hxt
  exact List.mem_append_left _ (List.mem_filterMap.2 ⟨.tmp t,by simpa using hx,rfl⟩)
 ·unfold guardOf
  cases e:o.guard with
  | none=>rfl
  | some p =>
   obtain ⟨j,want⟩:=p
   simp only
   cases e1:(ops[j]?).bind (·.dst) with
   | none=>rfl
   | some t =>
    simp only
    have:look (T.put d u) (.tmp t)=look T (.tmp t):=pO fun t' ht hxt=>hd t' ht (by
     cases hxt
     refine List.mem_append_right _ ?_
     simp [e,e1])
    have h2:(T.put d u) t=T t:=this
    rw [h2]
theorem put_comm {T:Tm} {d e:Option Nat} {u v:Bool×AV} (h:∀ t,d=some t->e≠some t):(T.put d u).put e v=(T.put e v).put d u:=by
 cases d with
 | none=>rfl
 | some d =>
  cases e with
  | none=>rfl
  | some e =>
   have hne:d≠e:=fun k=>h d rfl (by rw [k])
   funext s
   simp only [Tm.put]
   by_cases h1:s=d
   ·subst h1
    have:Nat.beq s e=false:=by rw [Bool.eq_false_iff];exact fun k=>hne (Nat.eq_of_beq_eq_true k)
    simp [this]
   ·have:Nat.beq s d=false:=by rw [Bool.eq_false_iff];exact fun k=>h1 (Nat.eq_of_beq_eq_true k)
    simp [this]
def dW (P:Program) (cf:Cfg) (H:List Ob) (N:Nat) (ops:Array Oper) (Q:Tm->Prop):List Oper->Tm->Prop
 | [],T=>Q T
 | o::l,T=>∃ v,oN P cf H N ops o T v/\dW P cf H N ops Q l (T.put o.dst v)
def Ui (P:Program) (cf:Cfg) (H:List Ob) (N:Nat) (ops:Array Oper) (Q:Tm->Prop):Nat->Array Bool->Tm->Prop
 | 0,listed,T=>Region.ready .any ops listed=[]/\Q T
 | fuel+1,listed,T=>(Region.ready .any ops listed=[]->Q T)/\∀ i∈Region.ready .any ops listed,∃ o v,ops[i]? = some o/\oN P cf H N ops o T v/\Ui P cf H N ops Q fuel (listed.setIfInBounds i true) (T.put o.dst v)
theorem MP {Q:Tm->Prop} {i:Nat} {oi:Oper} {v:Bool×AV} (hi:ops[i]? = some oi):∀ (fuel:Nat) (listed:Array Bool) (T:Tm),
  (∀ j oj,ops[j]? = some oj->j≠i->listed.getD j true=false->(∀ e∈oj.after,Region.binds .any e=true->e.on≠i)->oi.apart ops oj=true) ->
   i∈Region.ready .any ops listed->oN P cf H N ops oi T v->Ui P cf H N ops Q fuel (listed.setIfInBounds i true) (T.put oi.dst v)->Ui P cf H N ops Q (fuel+1) listed T:=by
 intro fuel
 induction fuel with
 | zero =>
  intro listed T _ hr hy K
  refine ⟨fun h=>(by rw [h] at hr;cases hr),fun j hj =>?_⟩
  by_cases hji:j=i
  ·subst hji;exact ⟨oi,v,hi,hy,K⟩
  ·have:=ready_mono hj hji
   rw [K.1] at this
   cases this
 | succ fuel ih =>
  intro listed T hfree hr hy K
  refine ⟨fun h=>(by rw [h] at hr;cases hr),fun j hj =>?_⟩
  by_cases hji:j=i
  ·subst hji;exact ⟨oi,v,hi,hy,K⟩
  ·obtain ⟨oj,u,hoj,h1,h2⟩:=K.2 j (ready_mono hj hji)
   obtain ⟨hjun,oj',hoj',hall⟩:=mem_ready.1 hj
   rw [hoj] at hoj'
   cases hoj'
   have hnot:∀ e∈oj.after,Region.binds .any e=true->e.on≠i:=fun e he hb heq=>by
    have h1:=hall e he hb
    have h0:=(mem_ready.1 hr).1
    rw [heq] at h1
    rcases Nat.lt_or_ge i listed.size with h' | h'
    ·simp [h'] at h0 h1;rw [h0] at h1;cases h1
    ·simp [Array.getElem?_eq_none h'] at h1
   obtain ⟨k1,k2,k3⟩:=Oper.apart_spec (hfree j oj hoj hji hjun hnot)
   refine ⟨oj,u,hoj,Oa k1 h1,ih _ _ ?_ (ready_mono hr (Ne.symm hji)) (VX k3 hy) ?_⟩
   ·intro k ok hk hki hun hno
    refine hfree k ok hk hki ?_ hno
    by_cases hjk:j=k
    ·subst hjk;exact hjun
    ·rw [getD_set_ne true hjk] at hun;exact hun
   ·rw [Array.setIfInBounds_comm _ _ hji,← put_comm k2]
    exact h2
theorem JO {Q:Tm->Prop}:∀ (l:List Oper) (k:Nat) (listed:Array Bool) (T:Tm),(∀ j,l[j]? = ops[k+j]?) ->
  Region.lexFrom .any ops l.length k listed=true->dW P cf H N ops Q l T->Ui P cf H N ops Q l.length listed T
 | [],_,_,_,_,hB,h=>⟨by simpa [Region.lexFrom] using hB,h⟩
 | o::l,k,listed,T,hl,hB,h=>by
  have h0:ops[k]? = some o:=by simpa using (hl 0).symm
  simp only [List.length_cons,Region.lexFrom,Bool.and_eq_true] at hB
  obtain ⟨⟨hr,hf⟩,hB'⟩:=hB
  obtain ⟨v,hy,hK⟩:=h
  exact MP h0 l.length listed T (Region.free_spec h0 hf) (by simpa using hr) hy
   (JO l (k+1) _ _ (fun j=>by have:=hl (j+1);simpa [Nat.add_assoc,Nat.add_comm 1 j] using this) hB' hK)
end
section
variable {P:Program} {cf:Cfg} {b:Base} {N:Nat} {φ:Nat->Value} {β:Nat->Nat->Prop} {M:Mem} {T:Tm} {H:List Ob} {a:Act} {w:World} {ops:Array Oper}
theorem vk {Q:Tm->Prop} {Q':Exit->Act->World->Prop} (hQ:∀ M' T' a' w',RA P cf b N φ β M' ⟨T',H⟩ a' w'->Q T'->Q' .normal a' w'):∀ (fuel:Nat) (listed:Array Bool) (M:Mem) (T:Tm) (a:Act) (w:World),
  RA P cf b N φ β M ⟨T,H⟩ a w->Ui P cf H N ops Q fuel listed T->wpAny P .any ops Q' fuel listed a w
 | 0,_,_,_,_,_,hR,h=>⟨h.1,hQ _ _ _ _ hR h.2⟩
 | fuel+1,_,_,_,_,_,hR,h=>⟨fun h0=>hQ _ _ _ _ hR (h.1 h0),fun i hi=>by
  obtain ⟨o,v,ho,h1,h2⟩:=h.2 i hi
  have:=yF (Q:=Q') hR h1 (K:=wpAny P .any ops Q' fuel _) (fun M' a' w' _ hR'=>vk hQ fuel _ M' _ a' w' hR' h2)
  unfold wpOp
  rw [ho]
  simp only
  split
  ·rename_i hw
   rw [if_pos hw] at this
   exact .inl this
  ·rename_i hw
   rw [if_neg hw] at this
   exact this⟩
end
def awp (P:Program) (cf:Cfg) (b:Base) (N:Nat) (c:Code) (Q:Exit->St->Prop) (X:St):Prop :=
 ∀ a w,R P cf b N X a w->c.wp P (fun e a' w'=>∃ X',Q e X'/\R P cf b N X' a' w') a w
def nS (next:St->Prop) (Q:Exit->St->Prop):Exit->St->Prop
 | .normal,X=>next X
 | e,X=>Q e X
def gB (id:Nat) (Q:Exit->St->Prop):Exit->St->Prop
 | .exit id',X=>if id'=id then Q .normal X else Q (.exit id') X
 | e,X=>Q e X
section
variable {P:Program} {cf:Cfg} {b:Base} {N:Nat} {Q:Exit->St->Prop} {X:St}
theorem O4 {x y:Code} (h:awp P cf b N x (nS (awp P cf b N y Q) Q) X):awp P cf b N (.seq x y) Q X:=fun a w hR=>by
 refine wp_seq (Code.wp_mono (fun e a' w' hq =>?_) (h a w hR))
 obtain ⟨X',h1,h2⟩:=hq
 cases e<;>first | exact h1 a' w' h2 | exact ⟨X',h1,h2⟩
theorem FI {id:Nat} {c:Code} (h:awp P cf b N c (gB id Q) X):awp P cf b N (.block id c) Q X:=fun a w hR=>by
 refine wp_block (Code.wp_mono (fun e a' w' hq =>?_) (h a w hR))
 obtain ⟨X',h1,h2⟩:=hq
 cases e with
 | exit id' =>
  simp only [Exit.inBlock,gB] at h1 ⊢
  split
  ·rename_i e;rw [if_pos e] at h1;exact ⟨X',h1,h2⟩
  ·rename_i e;rw [if_neg e] at h1;exact ⟨X',h1,h2⟩
 | _=>exact ⟨X',h1,h2⟩
theorem JC (h:Q .normal X):awp P cf b N .skip Q X:=fun _ _ hR=>wp_skip ⟨X,h,hR⟩
theorem O1 (h:Q .ret X):awp P cf b N .ret Q X:=fun _ _ hR=>wp_ret ⟨X,h,hR⟩
theorem JB {id:Nat} (h:Q (.exit id) X):awp P cf b N (.exit id) Q X:=fun _ _ hR=>wp_exit ⟨X,h,hR⟩
theorem aj {c:Operand} {x y:Code} {v:Bool} (hc:look X.T c=(true,.bool v)) (ht:v=true->awp P cf b N x Q X) (hf:v=false->awp P cf b N y Q X):awp P cf b N (.cond c x y) Q X:=fun a w hR=>by
 have hb:a.eval c = .bool v:=by
  obtain ⟨φ,β,M,h⟩:=hR
  have:=h.ctx.t c (by rw [hc])
  rw [hc] at this
  exact this
 exact wp_cond_split hb (fun e=>ht e a w hR) (fun e=>hf e a w hR)
theorem TK {id:Nat} {l:List Oper} (hm:P.follows .mixedOrders=true) (hB:Region.lexB .any l.toArray=true) (h:dW P cf X.H N l.toArray (fun T=>Q .normal ⟨T,X.H⟩) l X.T):awp P cf b N (.region id l.toArray true) Q X:=fun a w ⟨φ,β,M,hR⟩=>by
 simp only [Region.lexB,Bool.and_eq_true] at hB
 refine wp_region_any hm (vk (φ:=φ) (β:=β) (H:=X.H) (fun M' T' a' w' hR' hQ=>⟨_,hQ,φ,β,M',hR'⟩) _ _ M X.T a _ hR.draw ?_)
 have:=JO (P:=P) (cf:=cf) (H:=X.H) (N:=N) l 0 (Array.replicate l.toArray.size false) X.T (by simp) (by simpa using hB.2) h
 simpa using this
def St.le (fx:List Bool) (X X':St):Prop:=(∀ t,X'.T t=X.T t\/X'.T t=(true,.und))/\∃ n,fx.length<=X'.H.length/\X'.H=X.H.take n/\(∀ t,(X'.T t).2.lt X'.H.length)/\∀ (i:Nat) (o:Ob),X'.H[i]? = some o->o.lt X'.H.length
theorem R.le {X':St} {a:Act} {w:World} (h:R P cf b N X a w) (hl:X.le b.fx X'):R P cf b N X' a w:=by
 obtain ⟨φ,β,M,h⟩:=h
 obtain ⟨h1,n,h0,h2,h3,h4⟩:=hl
 have hn:X'.H.length<=X.H.length:=by rw [h2,List.length_take];omega
 have hs:∀ (i:Nat) (o:Ob),X'.H[i]? = some o->X.H[i]? = some o:=fun i o hi=>by
  rw [h2,List.getElem?_take] at hi
  split at hi
  ·exact hi
  ·cases hi
 refine ⟨φ,β,M,h.cf,h.le,h.new,⟨h.hi.mem,fun i o hi=>h.hi.ob i o (hs i o hi),fun i g hi=>h.hi.off i g (by omega),fun i j g hi hj=>h.hi.inj i j g (by omega) (by omega),fun i g hi=>h.hi.lt i g (by omega),h4⟩,fun t =>?_,h3,fun i g hi=>h.own i g (by omega),h.size,h.below,⟨h0,h.fix.2⟩,h.defers⟩
 rcases h1 t with e | e
 ·rw [e];exact h.t t
 ·rw [e];exact ⟨fun _=>trivial,fun hf=>by cases hf⟩
end
end Am
end Go.Proofs.YtnblieajjclipaaGreat
