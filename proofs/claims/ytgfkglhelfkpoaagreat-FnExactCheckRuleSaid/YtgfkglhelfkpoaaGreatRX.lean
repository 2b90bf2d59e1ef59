/- Texts put together: PPoly, WPoly, WPoly2, WPoly3, WPoly4. -/
import Derived.Test.YtgfkglhelfkpoaaGreatRA
import Derived.Test.YtgfkglhelfkpoaaGreatRP
import Derived.Test.YtgfkglhelfkpoaaGreatRC
import Derived.Test.YtgfkglhelfkpoaaGreatRE
set_option maxRecDepth 100000
set_option maxHeartbeats 1000000
open Go.Lib (hid)
namespace Go.Proofs.YtgfkglhelfkpoaaGreat
section
open Plain
def cmpL:List Int→List Int→Int
 | [],[]=>0
 | [],_ :: _=>-1
 | _ :: _,[]=>1
 | x :: a,y :: b=>if x<y then -1 else if y<x then 1 else cmpL a b
theorem cmpL_step {a b:List Int} {k:Nat} (hk:k<a.length) (hb:k<b.length):cmpL (a.drop k) (b.drop k)=if cf a k<cf b k then -1 else if cf b k<cf a k then 1 else cmpL (a.drop (k+1)) (b.drop (k+1)):=by
 rw [List.drop_eq_getElem_cons hk,List.drop_eq_getElem_cons hb]
 simp only [cmpL]
 have e1:cf a k=a[k]:=by simp [cf,List.getD,hk]
 have e2:cf b k=b[k]:=by simp [cf,List.getD,hb]
 rw [e1,e2]
theorem cmpL_bd (a b:List Int):cmpL a b=-1∨cmpL a b=0∨cmpL a b=1:=by
 induction a generalizing b with
 | nil=>cases b<;>simp [cmpL]
 | cons x a ih=>
  cases b with
  | nil=>simp [cmpL]
  | cons y b=>
   simp only [cmpL]
   split
   ·simp
   ·split
    ·simp
    ·exact ih b
abbrev Term':=List Int×Int
def degL (a:List Int):Nat→Int
 | 0=>0
 | k+1=>degL a k+cf a k
def expsOk (a:List Int):Bool:=a.all fun n=>inR n 0 12
def termOk (v:Int) (t:Term'):Bool:=decide ((t.1.length:Int)=v)&&inR t.2 1 1000002&&(expsOk t.1&&decide (degL t.1 t.1.length≤12))
def tmAt (ts:List Term') (i:Nat):Term':=ts.getD i ([],0)
def polyUp (v:Int) (ts:List Term'):Nat→Bool
 | 0=>true
 | k+1=>polyUp v ts k&&(termOk v (tmAt ts k)&&(decide (k=0) || decide (cmpL (tmAt ts (k - 1)).1 (tmAt ts k).1<0)))
def polyOk (v:Int) (ts:List Term'):Bool:=inR v 0 12&&decide (ts.length≤120)&&polyUp v ts ts.length
theorem polyUp_false {v:Int} {ts:List Term'} {k:Nat} (h:polyUp v ts k=false):∀ n,k≤n→polyUp v ts n=false:=by
 intro n
 induction n with
 | zero=>intro hn;obtain rfl:k=0:=by omega
         exact h
 | succ n ih=>
  intro hn
  by_cases hk:k=n+1
  ·rw [←hk];exact h
  ·unfold polyUp;rw [ih (by omega)];rfl
theorem polyUp_true {v:Int} {ts:List Term'} {n:Nat} (h:polyUp v ts n=true):∀ k,k≤n→polyUp v ts k=true:=fun k hk=>by
 cases hp:polyUp v ts k
 ·rw [polyUp_false hp n hk] at h;exact h
 ·rfl
theorem expsOk_bd {a:List Int} (h:expsOk a=true) (k:Nat):0≤cf a k∧cf a k≤12:=by
 by_cases hk:k<a.length
 ·have:=inR_true.1 (List.all_eq_true.1 h a[k] (List.getElem_mem hk))
  rwa [show cf a k=a[k] by simp [cf,List.getD,hk]]
 ·rw [cf_big (by omega)];omega
theorem degL_bd {a:List Int} (h:expsOk a=true) (k:Nat):0≤degL a k∧degL a k≤12*k:=by
 induction k with
 | zero=>simp [degL]
 | succ k ih=>
  have:=expsOk_bd h k
  simp only [degL]
  omega
theorem degL_mono {a:List Int} (h:expsOk a=true) {i k:Nat} (hik:i≤k):degL a i≤degL a k:=by
 induction k with
 | zero=>obtain rfl:i=0:=by omega
         exact Int.le_refl _
 | succ k ih=>
  by_cases hi:i=k+1
  ·rw [hi];exact Int.le_refl _
  ·have:=ih (by omega)
   have:=expsOk_bd h k
   simp only [degL]
   omega
def tvL (c:Int) (e zs:List Int):Nat→Int
 | 0=>c
 | k+1=>tm (tvL c e zs k) (pw (cf zs k) (cf e k).toNat)
def pvL (ts:List Term') (zs:List Int):Nat→Int
 | 0=>0
 | k+1=>pl (pvL ts zs k) (tvL (tmAt ts k).2 (tmAt ts k).1 zs (tmAt ts k).1.length)
theorem tvL_bd {c:Int} (h0:0≤c) (h1:c≤1000002) (e zs:List Int) (k:Nat):0≤tvL c e zs k∧tvL c e zs k≤1000002:=by
 cases k with
 | zero=>exact ⟨h0,h1⟩
 | succ k=>unfold tvL tm;omega
theorem pvL_bd (ts:List Term') (zs:List Int) (k:Nat):0≤pvL ts zs k∧pvL ts zs k≤1000002:=by
 cases k with
 | zero=>simp [pvL]
 | succ k=>unfold pvL pl;omega
theorem termOk_parts {v:Int} {t:Term'} (h:termOk v t=true):(t.1.length:Int)=v∧1≤t.2∧t.2≤1000002∧expsOk t.1=true∧degL t.1 t.1.length≤12:=by
 unfold termOk at h
 simp only [Bool.and_eq_true,decide_eq_true_eq] at h
 have:=inR_true.1 h.1.2
 exact ⟨h.1.1,this.1,this.2,h.2.1,h.2.2⟩
theorem polyOk_term {v:Int} {ts:List Term'} (h:polyOk v ts=true) {k:Nat} (hk:k<ts.length):termOk v (tmAt ts k)=true:=by
 unfold polyOk at h
 simp only [Bool.and_eq_true] at h
 have:=polyUp_true h.2 (k+1) (by omega)
 simp only [polyUp,Bool.and_eq_true] at this
 exact this.2.1
theorem polyOk_size {v:Int} {ts:List Term'} (h:polyOk v ts=true):0≤v∧v≤12∧ts.length≤120:=by
 unfold polyOk at h
 simp only [Bool.and_eq_true,decide_eq_true_eq] at h
 have:=inR_true.1 h.1.1
 omega
end
section
open Go.ChangeShapes Go.WideShapes Go.ChangeAt Go.RowKit Plain
abbrev poV (v:Int) (A:Option Addr) (n cap:Nat):Value:=.agg #[.int .i64 v,.slice A n cap]
def TmsAt (w:World) (A:Option Addr) (ts:List Term'):Prop:=
 0<ts.length→∃ b o,A=some ⟨b,o,none⟩∧b<w.heap.size∧∀ i t,ts[i]? = some t→∃ Ai cap,w.cell? ⟨b,o+i*2,none⟩=some (.slice Ai t.1.length cap)∧w.cell? ⟨b,o+i*2+1,none⟩=some (.int .i64 t.2)∧Ints w Ai t.1∧t.1.length≤9223372036854775807
theorem TmsAt.nil (w:World) (A:Option Addr):TmsAt w A []:=fun h=>absurd h (by simp)
theorem TmsAt.below {w w':World} {A:Option Addr} {ts:List Term'} (h:TmsAt w A ts) (hb:Below w.heap.size w w'):TmsAt w' A ts:=fun hn=>by
 obtain ⟨b,o,e,hl,hc⟩:=h hn
 refine ⟨b,o,e,Nat.lt_of_lt_of_le hl hb.size,fun i t ht=>?_⟩
 obtain ⟨Ai,cap,h1,h2,h3,h4⟩:=hc i t ht
 exact ⟨Ai,cap,(hb.cell (p:=⟨b,_,none⟩) hl).trans h1,(hb.cell (p:=⟨b,_,none⟩) hl).trans h2,h3.below hb,h4⟩
theorem tm_get {ts:List Term'} {k:Nat} (h:k<ts.length):ts[k]? = some (tmAt ts k):=by simp [tmAt,List.getD,h]
theorem TmsAt.at_ {w:World} {A:Option Addr} {ts:List Term'} (h:TmsAt w A ts) {k:Nat} (hk:k<ts.length) :
  ∃ b o Ai cap,A=some ⟨b,o,none⟩∧b<w.heap.size∧w.cell? ⟨b,o+k*2,none⟩=some (.slice Ai (tmAt ts k).1.length cap)∧w.cell? ⟨b,o+k*2+1,none⟩=some (.int .i64 (tmAt ts k).2)∧Ints w Ai (tmAt ts k).1∧(tmAt ts k).1.length≤9223372036854775807:=by
 obtain ⟨b,o,e,hl,hc⟩:=h (by omega)
 obtain ⟨Ai,cap,h1,h2,h3,h4⟩:=hc k _ (tm_get hk)
 exact ⟨b,o,Ai,cap,e,hl,h1,h2,h3,h4⟩
def totT (ts:List Term'):Nat:=tot (ts.map (·.1))
theorem exps_le_tot {ts:List Term'} {k:Nat} (h:k<ts.length):(tmAt ts k).1.length≤totT ts:=by
 have h1:(ts.map (·.1))[k]? = some (tmAt ts k).1:=by rw [List.getElem?_map,tm_get h];rfl
 exact len_le_tot h1
end
section
open Go.RowKit Plain
abbrev tmV (A:Option Addr) (n cap:Nat) (c:Int):Value:=.agg #[.slice A n cap,.int .i64 c]
def TmsR (lo hi:Nat) (A:Option Addr) (ts:List Term') (w:World):Prop:=
 0<ts.length→∃ (b o:Nat) (g:Nat→Nat),A=some ⟨b,o,none⟩∧lo≤b∧b<hi ∧
  (∀ i t,ts[i]? = some t→∃ Ai cap,w.cell? ⟨b,o+i*2,none⟩=some (.slice Ai t.1.length cap)∧w.cell? ⟨b,o+i*2+1,none⟩=some (.int .i64 t.2)∧w.frozen? ⟨b,o+i*2+1,none⟩=false ∧
   (0<t.1.length→∃ oi,Ai=some ⟨g i,oi,none⟩∧lo≤g i∧g i<hi∧g i≠b∧∀ j x,t.1[j]? = some x→w.cell? ⟨g i,oi+j,none⟩=some (.int .i64 x)∧w.frozen? ⟨g i,oi+j,none⟩=false)) ∧
  ∀ i j ti tj,i<j→ts[i]? = some ti→ts[j]? = some tj→0<ti.1.length→0<tj.1.length→g i≠g j
theorem TmsR.keep {lo hi:Nat} {A:Option Addr} {ts:List Term'} {w1 w2:World} (h:TmsR lo hi A ts w1) (hb:∀ q,lo≤q→q<hi→w2.heap[q]? = w1.heap[q]?):TmsR lo hi A ts w2:=fun hn=>by
 obtain ⟨b,o,g,e,h1,h2,hc,hd⟩:=h hn
 refine ⟨b,o,g,e,h1,h2,fun i t ht=>?_,hd⟩
 obtain ⟨Ai,cap,c1,c2,c3,c4⟩:=hc i t ht
 refine ⟨Ai,cap,(World.cell?_of_block (a:=⟨b,_,none⟩) (hb b h1 h2)).trans c1,(World.cell?_of_block (a:=⟨b,_,none⟩) (hb b h1 h2)).trans c2,(World.frozen?_of_block (a:=⟨b,_,none⟩) (hb b h1 h2)).trans c3,fun h0=>?_⟩
 obtain ⟨oi,e1,e2,e3,e4,e5⟩:=c4 h0
 exact ⟨oi,e1,e2,e3,e4,fun j x hx=>⟨(World.cell?_of_block (a:=⟨g i,_,none⟩) (hb _ e2 e3)).trans (e5 j x hx).1,(World.frozen?_of_block (a:=⟨g i,_,none⟩) (hb _ e2 e3)).trans (e5 j x hx).2⟩⟩
theorem TmsR.nil (lo hi:Nat) (A:Option Addr) (w:World):TmsR lo hi A [] w:=fun h=>absurd h (by simp)
abbrev RT (w:World) (lo hi:Nat) (A:Option Addr) (ts:List Term'):Prop:=Reg w lo hi (TmsR lo hi A ts)
theorem regTms {w:World} {lo hi:Nat} {A:Option Addr} {ts:List Term'} (h:RT w lo hi A ts) (hm:totT ts≤9223372036854775807):TmsAt w A ts:=fun hn=>by
 obtain ⟨b,o,g,e,h1,h2,hc,_⟩:=h.now hn
 refine ⟨b,o,e,Nat.lt_of_lt_of_le h2 h.size,fun i t ht=>?_⟩
 obtain ⟨Ai,cap,c1,c2,_,c4⟩:=hc i t ht
 have hi:i<ts.length:=(List.getElem?_eq_some_iff.1 ht).1
 have hti:tmAt ts i=t:=by have:=tm_get hi;rw [ht] at this;simpa using this.symm
 refine ⟨Ai,cap,c1,c2,fun h0=>?_,by have:=exps_le_tot hi;rw [hti] at this;omega⟩
 obtain ⟨oi,e1,e2,e3,e4,e5⟩:=c4 h0
 exact ⟨g i,oi,e1,Nat.lt_of_lt_of_le e3 h.size,fun j x hx=>(e5 j x hx).1⟩
theorem Tryz.infoT:(Tryz.prog.info? 173).map (fun i=>(i.zero,i.size,i.bytes))=some (some (tmV none 0 0 0),2,32):=by kernel_rfl
end
section
open Go.RowKit Plain
theorem termOk_len {v:Int} {t:Term'} (h:¬ (t.1.length:Int)=v):termOk v t=false:=by unfold termOk;simp [h]
theorem termOk_coef {v:Int} {t:Term'} (h:inR t.2 1 1000002=false):termOk v t=false:=by unfold termOk;simp [h]
theorem cmpS_any (A B:Option Addr) (ca cb:Nat) (a b:List Int) (w:World) (hA:Ints w A a) (hB:Ints w B b) (hl:b.length=a.length) (ha:a.length≤9223372036854775807) :
  Calls Tryz.prog 249 #[.slice A a.length ca,.slice B a.length cb] w fun e w'=>e=.returned (.int .i64 (cmpL a b))∧Drawn w w':=by
 have HA:=hid hA;clear hA
 have HB:=hid hB;clear hB
 have HL:=hid hl;clear hl
 go_enter Tryz.func249,Tryz.ntmps249
 go_wp2
 go_loopw [5] (fun i wr=>∃ (k d:Nat),k≤a.length∧i=.int .i64 (k:Int)∧wr=w.drewN d∧Hid (cmpL (a.drop k) (b.drop k)=cmpL a b)) (fun i _=>a.length - (intOf i).toNat)
 case atStart=>exact ⟨0,0,by omega,by go_num,rfl,rfl⟩
 case round=>
  obtain ⟨k,d,hk,rfl,rfl,HR⟩:=hrel
  by_cases hlt:k<a.length
  ·obtain ⟨ba,oa,rfl,_,hca⟩:=HA.out.cfAt (by omega)
   obtain ⟨bb,ob,rfl,_,hcb⟩:=HB.out.cfAt (by have:=HL.out;omega)
   have hc10:=hca k hlt
   have hc20:=hcb k (by have:=HL.out;omega)
   have hc1:(w.drewN d).cell? ⟨ba,oa+k,none⟩=some (.int .i64 (cf a k)):=hca k hlt
   have hc2:(w.drewN d).cell? ⟨bb,ob+k,none⟩=some (.int .i64 (cf b k)):=hcb k (by have:=HL.out;omega)
   have HS:=hid (cmpL_step hlt (by have:=HL.out;omega:k<b.length))
   have hkl:(k:Int)<(a.length:Int):=by omega
   clear hca hcb
   generalize cf a k=x at *
   generalize cf b k=y at *
   by_cases h1:x<y
   ·have HV:Hid (cmpL a b=-1):=by show _=_;rw [←HR.out,HS.out,if_pos h1]
    clear HS HR
    go_wp2
    go_quiet (fail)
    go_wp2
    go_ret
    exact ⟨ret_int HV.out.symm,_,by first | rfl | exact World.drewN_drewN _ _ _⟩
   ·have hd1:decide (x<y)=false:=by simpa using h1
    by_cases h2:y<x
    ·have HV:Hid (cmpL a b=1):=by show _=_;rw [←HR.out,HS.out,if_neg h1,if_pos h2]
     clear HS HR
     go_wp2
     go_quiet (fail)
     go_wp2
     go_quiet (fail)
     go_wp2
     go_ret
     exact ⟨ret_int HV.out.symm,_,by first | rfl | (simp only [World.drewN_drewN];rfl)⟩
    ·have HV:Hid (cmpL (a.drop (k+1)) (b.drop (k+1))=cmpL a b):=by show _=_;rw [←HR.out,HS.out,if_neg h1,if_neg h2]
     have hd2:decide (y<x)=false:=by simpa using h2
     clear HS HR
     go_wp2
     go_quiet (fail)
     go_wp2
     go_quiet (fail)
     go_wp2
     go_roundw
     case rel=>exact ⟨k+1,_,by omega,by go_num,by first | rfl | (simp only [World.drewN_drewN];rfl),HV.out⟩
     case measure=>simp [intOf];omega
  ·obtain rfl:k=a.length:=by omega
   have HV:Hid (cmpL a b=0):=by
    show _=_
    rw [←HR.out,List.drop_length,←HL.out,List.drop_length];rfl
   clear HR
   go_wp2
   go_ret
   exact ⟨ret_int HV.out.symm,_,rfl⟩
end
section
open Go.RowKit Plain
theorem polyOk_vars {v:Int} {ts:List Term'} (h:inR v 0 12=false):polyOk v ts=false:=by unfold polyOk;simp [h]
theorem polyOk_len {v:Int} {ts:List Term'} (h:¬ ts.length≤120):polyOk v ts=false:=by unfold polyOk;simp [h]
theorem polyOk_up {v:Int} {ts:List Term'} (h:inR v 0 12=true) (h2:ts.length≤120):polyOk v ts=polyUp v ts ts.length:=by unfold polyOk;simp [h,h2]
theorem polyUp_term {v:Int} {ts:List Term'} {k:Nat} (h:termOk v (tmAt ts k)=false) (hk:k<ts.length):polyUp v ts ts.length=false:=polyUp_false (k:=k+1) (by unfold polyUp;rw [h];simp) _ (by omega)
theorem polyUp_ord {v:Int} {ts:List Term'} {k:Nat} (hk0:0<k) (h:¬ cmpL (tmAt ts (k - 1)).1 (tmAt ts k).1<0) (hk:k<ts.length):polyUp v ts ts.length=false:=polyUp_false (k:=k+1) (by
 unfold polyUp
 rw [show decide (k=0)=false by simp;omega]
 simp [h]) _ (by omega)
theorem polyUp_next {v:Int} {ts:List Term'} {k:Nat} (h0:polyUp v ts k=true) (h1:termOk v (tmAt ts k)=true) (h2:k=0∨cmpL (tmAt ts (k - 1)).1 (tmAt ts k).1<0):polyUp v ts (k+1)=true:=by
 unfold polyUp
 rw [h0,h1]
 rcases h2 with h2 | h2<;>simp [h2]
end
end Go.Proofs.YtgfkglhelfkpoaaGreat
