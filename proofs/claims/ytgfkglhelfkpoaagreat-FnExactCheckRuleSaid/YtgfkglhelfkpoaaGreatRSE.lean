/- Texts put together: WGath2. -/
import Derived.Test.YtgfkglhelfkpoaaGreatRSD
import Derived.Test.YtgfkglhelfkpoaaGreatRSA
import Derived.Test.YtgfkglhelfkpoaaGreatRB
import Derived.Deep.RegionHeld3
import Derived.StillTailTactics
import Derived.Deep.LoopGhost
import Derived.Deep.RegionLaw
import Derived.BigQuiet
set_option maxRecDepth 100000
set_option maxHeartbeats 4000000
open Go.Lib (hid)
namespace Go.Proofs.YtgfkglhelfkpoaaGreat
section
open Go.RowKit Plain
theorem keep3g {w w':World} {p q r:Addr} {a b c:Value} (h:w.cell? p=some a∧w.cell? q=some b∧w.cell? r=some c) (hb:Below w.heap.size w w'):w'.cell? p=some a∧w'.cell? q=some b∧w'.cell? r=some c:=
 ⟨keepC h.1 hb,keepC h.2.1 hb,keepC h.2.2 hb⟩
theorem cell_tm_new (w:World) (u:Value) (c:Int) (t:TypeId) (j:Nat) (x:Value) (h:[u,Value.int .i64 c][j]? = some x):(w.alloc (.cells #[u,.int .i64 c] t)).cell? ((Addr.mk w.heap.size 0 none).add j)=some x:=by
 have hc:=(Cells.new w t [u,.int .i64 c]).cell j
 rw [addr_add,Nat.zero_add]
 exact hc.trans h
theorem one_tm {A:Option Addr} {n k:Nat} (c:Int):∀ u∈[Value.slice A n k,.int .i64 c],u.oneCell'=true:=fun u hu=>by
 simp at hu;rcases hu with rfl | rfl<;>rfl
def GathPost (vars:Int) (A:Option Addr) (n:Nat) (ts:List Term') (w:World) (e:Ending) (w':World):Prop:=
 ∃ (A':Option Addr) (cap':Nat) (ts':List Term'),e=.returned (poV vars A' ts'.length cap')∧RT w' w.heap.size w'.heap.size A' ts'∧Canon ts'∧(∀ e,cof ts' e=cof ts e)∧ts'.length≤ts.length∧LenT n ts'∧Only (InB ts.length A) w w'
structure GSt (W0:World) (p B:Nat) (vars:Int) (us out:List Term') (i m cp:Nat) (A:Option Addr) (wr:World):Prop where
 box:Cells wr p 86 [.int .i64 vars,.slice A m cp]
 len:out.length=m
 row:TRow wr B (.slice A m cp) out
 inv:GInv us i out
 only:Only (fun q=>q=p) W0 wr
 pB:p<B
 B0:B=W0.heap.size
theorem GSt.next {W0 wr w1:World} {p B:Nat} {vars:Int} {us out:List Term'} {i m cp:Nat} {A:Option Addr} (h:GSt W0 p B vars us out i m cp A wr) (hb:Below wr.heap.size wr w1):GSt W0 p B vars us out i m cp A w1:=
 ⟨h.box.next hb,h.len,h.row.below hb,h.inv,h.only.trans (Only.of_below hb),h.pB,h.B0⟩
theorem GSt.size {W0 wr:World} {p B:Nat} {vars:Int} {us out:List Term'} {i m cp:Nat} {A:Option Addr} (h:GSt W0 p B vars us out i m cp A wr):B≤wr.heap.size:=by rw [h.B0];exact h.only.size
theorem GSt.push {W0 wr w1 w2:World} {p B:Nat} {vars c:Int} {us out:List Term'} {i j m cp:Nat} {A:Option Addr} {v2 u:Value} {E:List Int} {L:List (Value×Int)} (h:GSt W0 p B vars us out i m cp A wr) (hp:TParts wr B (.slice A m cp) out L)
  (hb:Below wr.heap.size wr w1) (hu:IntRow w1 wr.heap.size u E) (hown:w2.ownsRow B 173 2 v2 (m+1) (cellsT L++[u,.int .i64 c])) (hg:w1.grownBy w2 (Value.slice A m cp).ownBlock) (hinv:GInv us j (out++[(E,c)])) :
  ∃ A2 c2,v2=.slice A2 (m+1) c2∧Below B wr w2∧GSt W0 p B vars us (out++[(E,c)]) j (m+1) c2 A2 (w2.setCell ⟨p,1,none⟩ (.slice A2 (m+1) c2)):=by
 have hl:=h.len
 subst hl
 obtain ⟨h1,h2⟩:=TParts.push (t:=(E,c)) hp h.size hb hu hown hg
 obtain ⟨A2,c2,hv⟩:=h1.form
 have hv':v2=.slice A2 (out.length+1) c2:=by rw [hv];simp
 subst hv'
 refine ⟨A2,c2,rfl,h2, ?_,by simp, ?_,hinv, ?_,h.pB,h.B0⟩
 ·have:=(h.box.below h2 h.pB).set_ 1 (.slice A2 (out.length+1) c2)
  simpa using this
 ·refine h1.keep fun q hq _=>Below.heap_setCell _ _ _ _ (fun e=>?_)
  have:=h.pB
  simp only at e
  omega
 ·have hB:=h.B0
  have h3:Only (fun q=>q=p) W0 w2:=h.only.chain (T:=fun q=>B≤q) ⟨h2.os,h2.tape,h2.output,h2.size,fun k _ hk=>h2.block k (by omega)⟩ (fun q hq hb=>absurd hb (by omega))
  exact h3.chain (T:=fun q=>q=p) ⟨rfl,rfl,rfl,by simp [World.setCell],fun q _ hq=>Below.heap_setCell _ _ _ _ hq⟩ (fun q _ h=>h)
def SrtT (us:List Term'):Prop:=us.Pairwise (fun s t=>¬ cmpL t.1 s.1<0)
theorem RowT.below {w w':World} {g off n:Nat} {ts:List Term'} (h:RowT w g off n ts) (hg:g<w.heap.size) (hb:Below w.heap.size w w'):RowT w' g off n ts:=fun i t ht=>by
 obtain ⟨Ai,ca,c0,c1,f0,f1,k1,k2,k3⟩:=h i t ht
 have hbk:=hb.block g hg
 exact ⟨Ai,ca,(World.cell?_of_block (a:=⟨g,_,none⟩) hbk).trans c0,(World.cell?_of_block (a:=⟨g,_,none⟩) hbk).trans c1,(World.frozen?_of_block (a:=⟨g,_,none⟩) hbk).trans f0,(World.frozen?_of_block (a:=⟨g,_,none⟩) hbk).trans f1,k1.below hb,k2,k3⟩
def RowO (w:World) (B:Nat) (A:Option Addr) (n:Nat) (ts:List Term'):Prop:=0<ts.length→∃ g,A=some ⟨g,0,none⟩∧g<B∧RowT w g 0 n ts
def SortP (A:Option Addr) (n B:Nat) (ts:List Term') (w:World) (e:Ending) (w':World):Prop:=
 e=.returned (.tuple #[])∧∃ us,us.Perm ts∧SrtT us∧RowO w' B A n us∧Only (InB ts.length A) w w'
theorem sortP_any (A:Option Addr) (cap n:Nat) (ts:List Term') (w wx:World) (hl:ts.length≤1000000) (hn:n≤1000000) (h:RowO w w.heap.size A n ts) (hb:Below w.heap.size w wx) :
  Calls Tryz.prog 177 #[.slice A ts.length cap,.func (.func 178) #[] #[]] wx (SortP A n w.heap.size ts wx):=by
 by_cases h0:0<ts.length
 ·obtain ⟨g,rfl,hg,hR⟩:=h h0
  refine (sortStable_any cap g 0 n ts wx (Nat.lt_of_lt_of_le hg hb.size) (hR.below hg hb) (by omega) (by omega) h0).mono ?_
  rintro e w' ⟨rfl,us,hp,hs,hR3,ho⟩
  exact ⟨rfl,us,hp,hs,fun _=>⟨g,rfl,hg,hR3⟩,⟨ho.os,ho.tape,ho.output,ho.size,fun k hk hs=>ho.block k hk (fun e=>hs ⟨h0,0,by rw [e]⟩)⟩⟩
 ·obtain rfl:ts=[]:=List.length_eq_zero_iff.1 (by omega)
  refine (sort_none A cap wx).mono ?_
  rintro e w' ⟨rfl,rfl⟩
  exact ⟨rfl,[],List.Perm.refl _,List.Pairwise.nil,fun h=>by simp at h,Only.refl _ _⟩
theorem gathered_any (vars:Int) (A:Option Addr) (cap n:Nat) (ts:List Term') (w:World) (hl:ts.length≤1000000) (hn:n≤1000000) (h:RowO w w.heap.size A n ts) :
  Calls Tryz.prog 111 #[.int .i64 vars,.slice A ts.length cap] w (GathPost vars A n ts w):=by
 obtain ⟨i0,hi,hz0,hz1,hz2⟩:=info_parts Tryz.infoT
 have HS:=hid (sortP_any A cap n ts w (w.alloc (.cells #[.int .i64 0,.slice none 0 0] 86)) hl hn h (by go_grown))
 clear h
 go_enter Tryz.func111,Tryz.ntmps111
 go_wp2_with fail
 refine HS.out.mono ?_
 rintro e w1 ⟨rfl,us,hp,hs,hR,ho⟩
 have HL2:Hid (us.length=ts.length):=hp.length_eq
 have HPM:=hid hp
 have HSR:=hid hs
 have HR:=hid hR
 have HO:=hid ho
 have hb0:w.heap.size<w1.heap.size:=by have:=ho.size;simp at this;omega
 clear hp hs hR ho HS
 go_wp2_with fail
 obtain ⟨W0,hW0⟩:∃ W0,W0=w1.alloc (.cells #[.int .i64 vars,.slice none 0 0] 86):=⟨_,rfl⟩
 have hW0s:W0.heap.size=w1.heap.size+1:=by rw [hW0];simp
 have HB1:Hid (Below w1.heap.size w1 W0):=by show Below _ _ _;rw [hW0];go_grown
 have HST:Hid (GSt W0 w1.heap.size (w1.heap.size+1) vars us [] 0 0 0 none W0):=by
  refine ⟨?_,rfl,TRow.nilv _ _,GInv.start us,Only.refl _ _,by omega,hW0s.symm⟩
  rw [hW0];exact Cells.new w1 86 [.int .i64 vars,.slice none 0 0]
 rw [←hW0]
 have HWS:=hid hW0s
 clear hW0 hW0s
 go_loopg [6] (ts.length+1) (fun kx s6 wr=>∃ (i:Nat) (out:List Term') (m cp:Nat) (A':Option Addr),s6=.int .i64 (i:Int)∧i≤ts.length∧ts.length - i<kx∧m≤i∧Hid (GSt W0 w1.heap.size (w1.heap.size+1) vars us out i m cp A' wr))
 case atStart=>exact ⟨0,[],0,0,none,by first | rfl | go_num,by omega,by omega,by omega,HST⟩
 case round=>
  clear HST
  obtain ⟨i,out,m,cp,A',rfl,hin,hkx,hmi,HG⟩:=hrel
  obtain ⟨wo,rfl⟩:∃ x,x=wr:=⟨_,rfl⟩
  have HBW:Hid (Below w1.heap.size w1 wo):=HB1.out.trans (HG.out.only.below (by have:=HWS.out;omega) (fun k hk=>by omega))
  have hpw:w1.heap.size<wo.heap.size:=HG.out.box.lt
  by_cases hlt:i<ts.length
  ·obtain ⟨g,rfl,hg,hRT0⟩:=HR.out (by have:=HL2.out;omega)
   have hg1:g<w1.heap.size:=by omega
   have HRT:=hid (hRT0.below hg1 HBW.out)
   clear hRT0
   have hus:i<us.length:=by have:=HL2.out;omega
   obtain ⟨AE,cE,c0,c1,f0,f1,k1,k2,k3⟩:=HRT.out i _ (tm_get hus)
   obtain ⟨E,hE⟩:∃ E,E=(tmAt us i).1:=⟨_,rfl⟩
   simp only at k1 k2 k3
   rw [←hE] at c0 k1 k2 k3
   rw [Nat.zero_add] at c0
   have HIE:=hid k1
   have HLE:=hid k3
   have HE:=hid hE
   have hiz:(i:Int)<(ts.length:Int):=by omega
   have hgo:g<wo.heap.size:=by omega
   clear c1 f0 f1 k1 k2 k3 hE hus
   have hg0:Below wo.heap.size wo (wo.alloc (.cells #[.slice AE E.length cE,.int .i64 0] 173)):=by go_grown
   have HG0:=hid hg0
   have HQ0:=hid (Cells.new wo 173 [.slice AE E.length cE,.int .i64 0])
   clear hg0
   go_upto_block 2 with fail
   go_cut [6] from 12 to 60 (fun s6 wc=>∃ (j:Nat) (c:Int),s6=.int .i64 (j:Int)∧i<j∧j≤ts.length∧Hid (c=cof (seg us i j) E)∧Hid (∀ k,i≤k→k<j→(tmAt us k).1=E)∧Hid (j<ts.length→(tmAt us j).1≠E)∧Hid (Below wo.heap.size wo wc)∧Hid (Cells wc wo.heap.size 173 [.slice AE E.length cE,.int .i64 c]))
   case first=>
    go_wp2_with fail
    generalize wo.alloc (.cells #[.slice AE E.length cE,.int .i64 0] 173)=W1 at *
    go_loopg [6] (ts.length+1) (fun ky s6 wr=>∃ (j:Nat) (c:Int),s6=.int .i64 (j:Int)∧i≤j∧j≤ts.length∧ts.length - j<ky∧Hid (c=cof (seg us i j) E)∧Hid (∀ k,i≤k→k<j→(tmAt us k).1=E)∧Hid (Below wo.heap.size wo wr)∧Hid (Cells wr wo.heap.size 173 [.slice AE E.length cE,.int .i64 c]))
    case atStart=>exact ⟨i,0,rfl,by omega,by omega,by omega,by show _=_;rw [seg_same];rfl,(fun k h1 h2=>by omega),HG0,HQ0⟩
    case round=>
     clear HG0 HQ0
     obtain ⟨j,c,rfl,hij,hjn,hky,HC,HK,HB,HQ⟩:=hrel
     have hq0:wr.cell? ⟨wo.heap.size,0,none⟩=some (.slice AE E.length cE):=by rw [HQ.out.cell];rfl
     have hq1:wr.cell? ⟨wo.heap.size,1,none⟩=some (.int .i64 c):=by rw [HQ.out.cell];rfl
     have hqf:wr.frozen? ⟨wo.heap.size,1,none⟩=false:=HQ.out.frozen _
     by_cases hj:j<ts.length
     ·have hjz:(j:Int)<(ts.length:Int):=by omega
      have hus:j<us.length:=by have:=HL2.out;omega
      obtain ⟨Aj,cj,d0,d1,_,_,l1,_,l3⟩:=(HRT.out.below hgo HB.out) j _ (tm_get hus)
      simp only at l1 l3
      have hlE:(tmAt us j).1.length=E.length:=by rw [l3,HLE.out]
      rw [hlE,Nat.zero_add] at d0
      rw [Nat.zero_add] at d1
      have HEQ:Hid (∀ m,Calls Tryz.prog 180 #[.slice Aj E.length cj,.slice AE E.length cE] (wr.drewN m) fun e w'=>e=.returned (.bool (decide ((tmAt us j).1=E)))∧∃ q,w'=(wr.drewN m).drewN q):=fun m=>
       equalI_any Aj AE cj cE E.length _ E (wr.drewN m) (l1.below (below_drewN' (Below.refl _ _) m)) ((HIE.out.below HB.out).below (below_drewN' (Below.refl _ _) m)) hlE rfl (by rw [HLE.out];omega)
      obtain ⟨x,hx⟩:∃ x,x=(tmAt us j).2:=⟨_,rfl⟩
      rw [←hx] at d1
      have HX:=hid hx
      have HLJ:=hid hlE
      clear l1 l3 hlE hx
      by_cases heq:(tmAt us j).1=E
      ·have HQ2:Hid (pl c x=cof (seg us i (j+1)) E):=by show _=_;rw [HC.out,HX.out];exact cof_seg_push hij hus heq
       have HK2:Hid (∀ k,i≤k→k<j+1→(tmAt us k).1=E):=fun k h1 h2=>by
        by_cases e:k=j
        ·rw [e];exact heq
        ·exact HK.out k h1 (by omega)
       have hde:decide ((tmAt us j).1=E)=true:=decide_eq_true heq
       rw [hde] at HEQ
       clear heq hde hus HK HC
       go_wp2_with fail
       go_quiet (first | (go_at_call 180;exact Calls.quiet_of (HEQ.out _)))
       have e1:(wr.drewN nq).cell? ⟨g,j*2+1,none⟩=some (.int .i64 x):=d1
       have e2:(wr.drewN nq).cell? ⟨wo.heap.size,1,none⟩=some (.int .i64 c):=hq1
       have e3:(wr.drewN nq).frozen? ⟨wo.heap.size,1,none⟩=false:=hqf
       have HB2:Hid (Below wo.heap.size wo (wr.drewN nq)):=HB.out.trans (below_drewN' (Below.refl _ _) nq)
       have HQ3:Hid (Cells (wr.drewN nq) wo.heap.size 173 [.slice AE E.length cE,.int .i64 c]):=HQ.out
       clear d0 d1 hq0 hq1 hqf HEQ HB HQ
       generalize wr.drewN nq=W2 at *
       go_wp2_with fail
       have HPL:=hid (fun wx=>plus_any c x wx)
       obtain ⟨z,hz⟩:∃ z,z=pl c x:=⟨_,rfl⟩
       rw [←hz] at HPL HQ2
       clear hz
       have HB3:Hid (Below wo.heap.size wo (W2.setCell ⟨wo.heap.size,1,none⟩ (.int .i64 z)).drew):=(HB2.out.setCell (p:=⟨wo.heap.size,1,none⟩) (Nat.le_refl _) (.int .i64 z)).drew
       have HQ4:Hid (Cells (W2.setCell ⟨wo.heap.size,1,none⟩ (.int .i64 z)).drew wo.heap.size 173 [.slice AE E.length cE,.int .i64 z]):=by
        have h:=HQ3.out.set_ 1 (.int .i64 z)
        show Cells _ _ _ _
        exact h
       clear HB2 HQ3
       go_region_law (first | (go_simp;go_at_call 181;refine (HPL.out _).mono ?_;rintro e w' ⟨rfl,rfl⟩))
       all_goals
        go_wp2
        go_roundg (ts.length - (j+1)+1)
        case measure=>omega
        case rel=>exact ⟨j+1,z,by first | rfl | go_num,by omega,by omega,by omega,HQ2,HK2,HB3,HQ4⟩
      ·have hde:decide ((tmAt us j).1=E)=false:=decide_eq_false heq
       rw [hde] at HEQ
       have hij2:i<j:=by
        by_cases e:i=j
        ·subst e;exact absurd HE.out.symm heq
        ·omega
       have HNE:Hid (j<ts.length→(tmAt us j).1≠E):=fun _=>heq
       clear heq hde hus
       go_wp2_with fail
       go_quiet (first | (go_at_call 180;exact Calls.quiet_of (HEQ.out _)))
       have HB2:Hid (Below wo.heap.size wo (wr.drewN nq)):=HB.out.trans (below_drewN' (Below.refl _ _) nq)
       have HQ3:Hid (Cells (wr.drewN nq) wo.heap.size 173 [.slice AE E.length cE,.int .i64 c]):=HQ.out
       clear d0 d1 hq0 hq1 hqf HEQ HB HQ
       go_wp2_with fail
       go_meet
       case rel=>exact ⟨j,c,rfl,hij2,by omega,HC,HK,HNE,HB2,HQ3⟩
     ·have hjz:¬ (j:Int)<(ts.length:Int):=by omega
      have hjb:decide ((j:Int)<(ts.length:Int))=false:=by simp;omega
      have HNE:Hid (j<ts.length→(tmAt us j).1≠E):=fun h=>absurd h hj
      have hij2:i<j:=by omega
      go_wp2_with fail
      go_quiet (fail)
      have HB2:Hid (Below wo.heap.size wo (wr.drewN nq)):=HB.out.trans (below_drewN' (Below.refl _ _) nq)
      have HQ3:Hid (Cells (wr.drewN nq) wo.heap.size 173 [.slice AE E.length cE,.int .i64 c]):=HQ.out
      clear hq0 hq1 hqf HB HQ
      go_wp2_with fail
      go_meet
      case rel=>exact ⟨j,c,rfl,hij2,by omega,HC,HK,HNE,HB2,HQ3⟩
   case rest=>
   obtain ⟨j,c,rfl,hij,hjn,HC,HK,HNE,HB,HQ⟩:=hcut
   have HGI:=hid (GInv.step HG.out.inv HSR.out hij (by rw [HL2.out];exact hjn) (fun k h1 h2=>by rw [HK.out k h1 h2,HE.out]) (fun h=>by rw [←HE.out];exact HNE.out (by rw [←HL2.out];exact h)))
   rw [←HE.out,←HC.out] at HGI
   have HG2:=hid (HG.out.next HB.out)
   have hq0:wc.cell? ⟨wo.heap.size,0,none⟩=some (.slice AE E.length cE):=by rw [HQ.out.cell];rfl
   have hq1:wc.cell? ⟨wo.heap.size,1,none⟩=some (.int .i64 c):=by rw [HQ.out.cell];rfl
   by_cases hc:c=0
   ·have hcb:(c != 0)=false:=by simp [hc]
    have hcb':(c==0)=true:=by simp [hc]
    have HG3:Hid (GSt W0 w1.heap.size (w1.heap.size+1) vars us out j m cp A' wc):=by
     have h:=HGI.out
     rw [hc] at h
     simp only [midT,if_pos,List.append_nil] at h
     exact ⟨HG2.out.box,HG2.out.len,HG2.out.row,h,HG2.out.only,HG2.out.pB,HG2.out.B0⟩
    clear hc HGI HG2
    go_wp2
    go_roundg (ts.length - j+1)
    case measure=>omega
    case rel=>exact ⟨j,out,m,cp,A',rfl,hjn,by omega,by omega,HG3⟩
   ·have hcb:(c != 0)=true:=by simp [hc]
    have hcb':(c==0)=false:=by simp [hc]
    have HGI2:Hid (GInv us j (out++[(E,c)])):=by
     have h:=HGI.out
     simp only [midT,if_neg hc] at h
     exact h
    have hp1:wc.cell? ⟨w1.heap.size,1,none⟩=some (.slice A' m cp):=by rw [HG2.out.box.cell];rfl
    have hpf:wc.frozen? ⟨w1.heap.size,1,none⟩=false:=HG2.out.box.frozen _
    have hpl:w1.heap.size<wc.heap.size:=HG2.out.box.lt
    have hql:wo.heap.size<wc.heap.size:=HQ.out.lt
    obtain ⟨L,hTP⟩:=HG2.out.row
    have hlen:=HG2.out.len
    have HTP:=hid hTP
    have HCL:Hid (Calls Tryz.prog 182 #[.slice AE E.length cE] wc.drew fun e w'=>∃ A c,e=.returned (.slice A E.length c)∧IntRow w' wc.heap.size (.slice A E.length c) E∧Below wc.heap.size wc w'):=
     (cloneR_any AE cE E wc.drew ((HIE.out.below HB.out).below (Below.refl _ _).drew) (by rw [HLE.out];exact hn)).mono fun e w' ⟨A,c,h1,h2,h3⟩=>⟨A,c,h1,h2,⟨h3.os,h3.tape,h3.output,h3.size,h3.block⟩⟩
    have HPU:Hid (∀ (u v2:Value) (w2 w3:World),IntRow w2 wc.heap.size u E→Below wc.heap.size wc w2→w3.ownsRow (w1.heap.size+1) 173 2 v2 (m+1) (cellsT L++[u,.int .i64 c])→w2.grownBy w3 (Value.slice A' m cp).ownBlock →
      ∃ A2 c2,v2=.slice A2 (m+1) c2∧Below (w1.heap.size+1) wc w3∧GSt W0 w1.heap.size (w1.heap.size+1) vars us (out++[(E,c)]) j (m+1) c2 A2 (w3.setCell ⟨w1.heap.size,1,none⟩ (.slice A2 (m+1) c2))):=by
     intro u v2 w2 w3 hu hb hown hg
     exact HG2.out.push HTP.out hb hu hown hg HGI2.out
    have HLT:Hid (∀ (w2 w3:World),Below wc.heap.size wc w2→w2.grownBy w3 (Value.slice A' m cp).ownBlock→w3.heap[wo.heap.size]? = wc.heap[wo.heap.size]?):=by
     intro w2 w3 hb hg
     obtain ⟨L',hTP'⟩:=HG.out.row
     have hlt:=World.ownsRow.lt hTP'.own
     have hs2:=hb.size
     exact (hg.block wo.heap.size (by omega) (fun e=>by have:=(hlt _ e.symm).2;omega)).trans (hb.block _ hql)
    have HKS:Hid (wc.cell? ⟨w1.heap.size,1,none⟩=some (.slice A' m cp)∧wc.cell? ⟨wo.heap.size,0,none⟩=some (.slice AE E.length cE)∧wc.cell? ⟨wo.heap.size,1,none⟩=some (.int .i64 c)):=⟨hp1,hq0,hq1⟩
    have HOW:Hid (∀ w2,Below wc.heap.size wc w2→w2.ownsRow (w1.heap.size+1) 173 2 (.slice A' m cp) m (cellsT L)):=fun w2 hb=>by
     have h:=ownsRow_keep2 HTP.out.own (w':=w2) fun g' hg'=>hb.block g' (World.ownsRow.lt HTP.out.own g' hg').2
     rwa [hlen] at h
    have HMX:Hid (m+1≤maxLen∧(m+1)*32≤140737488355328):=⟨by unfold maxLen;omega,by omega⟩
    have HSZ:Hid (w1.heap.size+1≤wc.heap.size):=by show _≤_;omega
    clear hTP HG2 hlen HGI HGI2 HTP HC HK HNE HQ HB HG
    go_wp2_with fail
    have HFR:Hid (∀ w2,Below wc.heap.size wc w2→w2.frozen? ⟨w1.heap.size,1,none⟩=false):=fun w2 hb=>(hb.frozen (p:=⟨w1.heap.size,1,none⟩) hpl).trans hpf
    go_region_law (first
      | (refine step_append_own rfl (.tmp 51) (.tmp 58) 84 rfl (w1.heap.size+1) 173 i0 (tmV none 0 0 0) 2 32 Tryz.underlying84 hi hz0 hz1 hz2 rfl (by decide) (.slice A' m cp) m (cellsT L) (by simp [Act.eval]) ((HOW.out w2 hb1).alloc _) ⟨w2.heap.size,0,none⟩ 1 1 [.slice Au E.length cu,.int .i64 c] (by simp [Act.eval]) rfl (cell_tm_new _ _ _ _) (one_tm _) HMX.out.1 HMX.out.2 (by have:=hb1.size;have:=HSZ.out;simp at *;omega) ?_;intro v2 w3 hown hg3;obtain ⟨A2,c2,rfl,hb3,hG3⟩:=HPU.out _ _ _ _ (hu.alloc _) (hb1.alloc hb1.size _) hown hg3;have z1:=(hb3.cell (p:=⟨w1.heap.size,1,none⟩) (Nat.lt_succ_self _)).trans HKS.out.1;have z2:=(hb3.frozen (p:=⟨w1.heap.size,1,none⟩) (Nat.lt_succ_self _)).trans hpf)
      | (go_simp;go_at_call 182;refine HCL.out.mono ?_;rintro e w2 ⟨Au,cu,rfl,hu,hb1⟩;obtain ⟨y1,y2,y3⟩:=keep3g HKS.out hb1;have y4:=keepC y1 ((Below.refl _ _).alloc (Nat.le_refl _) (.cells #[.slice Au E.length cu,.int .i64 c] 173))))
    all_goals
     have HG3:=hid hG3
     clear hG3 hb3 hown hg3 hu hb1
     go_wp2
     go_roundg (ts.length - j+1)
     case measure=>omega
     case rel=>exact ⟨j,out++[(E,c)],m+1,c2,A2,rfl,hjn,by omega,by omega,HG3⟩
  ·obtain rfl:i=ts.length:=by omega
   have hb:=HG.out.box
   have x0:wo.cell? ⟨w1.heap.size,0,none⟩=some (.int .i64 vars):=by rw [hb.cell];rfl
   have x1:wo.cell? ⟨w1.heap.size,1,none⟩=some (.slice A' m cp):=by rw [hb.cell];rfl
   have hC0:Cells w1 w.heap.size 86 [.int .i64 0,.slice none 0 0]:=by
    have h:=Cells.new w 86 [.int .i64 0,.slice none 0 0]
    refine (HO.out.block w.heap.size (by simp) (fun h=>?_)).trans h
    obtain ⟨h0,o,e⟩:=h
    obtain ⟨g,e2,hg,_⟩:=HR.out (by rw [HL2.out];exact h0)
    rw [e] at e2
    have:w.heap.size=g:=by simpa using congrArg (fun x=>x.map Addr.block) e2
    omega
   have hC:Cells wo w.heap.size 86 [.int .i64 0,.slice none 0 0]:=hC0.below HBW.out hb0
   have y0:wo.cell? ⟨w.heap.size,0,none⟩=some (.int .i64 0):=by rw [hC.cell];rfl
   have y1:wo.cell? ⟨w.heap.size,1,none⟩=some (.slice none 0 0):=by rw [hC.cell];rfl
   have f0:wo.frozen? ⟨w.heap.size,0,none⟩=false:=hC.frozen _
   have f1:wo.frozen? ⟨w.heap.size,1,none⟩=false:=hC.frozen _
   have hD1:=hC.set_ 0 (.int .i64 vars)
   have hD2:=hD1.set_ 1 (.slice A' m cp)
   have z0:=hD1.cell 0
   have z1:=hD2.cell 1
   have z2:=hD2.cell 0
   simp only [List.set_cons_zero,List.set_cons_succ,List.getElem?_cons_zero,List.getElem?_cons_succ] at z0 z1 z2
   have HE:Hid (GathPost vars A n ts w (.returned (poV vars A' m cp)) ((wo.setCell ⟨w.heap.size,0,none⟩ (.int .i64 vars)).setCell ⟨w.heap.size,1,none⟩ (.slice A' m cp))):=by
    have hlen:=HG.out.len
    have hinv:=HG.out.inv
    have hus:us.take ts.length=us:=List.take_of_length_le (by rw [HL2.out];exact Nat.le_refl _)
    have hcof:∀ e,cof out e=cof ts e:=fun e=>by rw [hinv.cofs,hus];exact cof_perm HPM.out e
    have hO2:Only (fun q=>q=w.heap.size) wo ((wo.setCell ⟨w.heap.size,0,none⟩ (.int .i64 vars)).setCell ⟨w.heap.size,1,none⟩ (.slice A' m cp)):=
     ⟨rfl,rfl,rfl,by simp [World.setCell],fun q _ hq=>(Below.heap_setCell _ _ _ _ hq).trans (Below.heap_setCell _ _ _ _ hq)⟩
    have hrow:TRow ((wo.setCell ⟨w.heap.size,0,none⟩ (.int .i64 vars)).setCell ⟨w.heap.size,1,none⟩ (.slice A' m cp)) (w1.heap.size+1) (.slice A' out.length cp) out:=by
     have h:=HG.out.row
     rw [←hlen] at h
     exact h.only hO2 (fun q hq e=>by have e':q=w.heap.size:=e;omega)
    have hws:w.heap.size≤((wo.setCell ⟨w.heap.size,0,none⟩ (.int .i64 vars)).setCell ⟨w.heap.size,1,none⟩ (.slice A' m cp)).heap.size:=by simp [World.setCell];omega
    refine ⟨A',cp,out,by rw [hlen],(hrow.lower (by omega)).rt hws,hinv.canon,hcof,by rw [hlen];exact hmi,fun t ht=>?_, ?_⟩
    ·obtain ⟨u,hu,e⟩:=hinv.canon.stems (L:=us) (fun e=>by rw [hinv.cofs,hus]) ht
     obtain ⟨k,hk,rfl⟩:=List.getElem_of_mem hu
     obtain ⟨g,_,_,hRT⟩:=HR.out (by omega)
     obtain ⟨_,_,_,_,_,_,_,_,k3⟩:=hRT k _ (List.getElem?_eq_getElem hk)
     rw [←e];exact k3
    ·have h1:Only (InB ts.length A) w w1:=(Only.of_below (S:=InB ts.length A) (show Below w.heap.size w (w.alloc (.cells #[.int .i64 0,.slice none 0 0] 86)) by go_grown)).chain HO.out (fun q _ h=>h)
     have h2:Only (InB ts.length A) w wo:=h1.chain (T:=fun q=>w1.heap.size≤q) ⟨HBW.out.os,HBW.out.tape,HBW.out.output,HBW.out.size,fun k _ hk=>HBW.out.block k (by omega)⟩ (fun q hq h=>absurd h (by omega))
     exact h2.chain hO2 (fun q hq e=>by have e':q=w.heap.size:=e;omega)
   have hz:¬ (ts.length:Int)<(ts.length:Int):=by omega
   clear hb hC0 hC hD1 hD2 HG
   go_wp2
   refine bodyPost_ret (v:=poV vars A' m cp) (by simp [results,Tryz.results111,go_sem,z0,z1]) rfl ?_
   exact HE.out
end
end Go.Proofs.YtgfkglhelfkpoaaGreat
